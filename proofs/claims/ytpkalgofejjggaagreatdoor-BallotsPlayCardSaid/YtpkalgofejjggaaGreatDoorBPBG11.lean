/- The soundness of Seq's walk -/
import Derived.Test.YtpkalgofejjggaaGreatDoorBPBG09
import Derived.Test.YtpkalgofejjggaaGreatDoorBPBG10
import Derived.Tactics
import Derived.Tactics2
import Derived.KernelRfl
namespace Go.Proofs.YtpkalgofejjggaaGreatDoor
open Go.RowKit
section
variable {P:Program}{ops:Array Oper}{md:Region.Mode}
def qx(ops:Array Oper)(i:Nat):Option Tmp:=(ops[i]?).bind (·.dst)
def lay(ops:Array Oper)(a:Act)(f:Nat->Option Value):Nat->Act
 |0=>a
 |k+1=>match f k with
  |some v=>(lay ops a f k).put (qx ops k) v
  |none=>lay ops a f k
theorem qw{a:Act}{f g:Nat->Option Value}:∀{m:Nat},(∀j,j<m->f j=g j)->lay ops a f m=lay ops a g m
 |0,_=>rfl
 |m+1,h=>by
  simp only[lay];rw[h m (by omega),qw (m:=m) fun j hj=>h j (by omega)]
theorem YJ{a:Act}{f:Nat->Option Value}{i:Nat}{v:Value}(hd:∀j k t,qx ops j=some t->qx ops k=some t->j=k)(hf:f i=none):
  ∀{m:Nat},i<m->(lay ops a f m).put (qx ops i) v=lay ops a (fun j=>if j=i then some v else f j) m
 |0,h=>absurd h (by omega)
 |m+1,h=>by
  by_cases hi:i=m
  ·subst hi;simp only[lay,hf,if_pos];rw[qw (f:=f) (g:=fun j=>if j=i then some v else f j) (m:=i) fun j hj=>by simp[Nat.ne_of_lt hj]]
  ·have ih:=YJ (a:=a) (v:=v) hd hf (m:=m) (by omega);simp only[lay,if_neg (Ne.symm hi)]
   cases f m with
   |none=>exact ih
   |some u=>
    simp only;rw[Act.put_comm _ u v,ih];intro d h1 h2;exact hi (hd _ _ _ h2 h1)
theorem put_size(a:Act)(d:Option Tmp)(v:Value):(a.put d v).tmps.size=a.tmps.size:=by
 cases d<;>simp[Act.put]
theorem lay_size(a:Act)(f:Nat->Option Value):∀m,(lay ops a f m).tmps.size=a.tmps.size
 |0=>rfl
 |m+1=>by
  simp only[lay]
  cases f m with
  |none=>exact lay_size a f m
  |some u=>exact(put_size _ _ _).trans (lay_size a f m)
theorem lM{a:Act}{f g:Nat->Option Value}{t:Tmp}:∀{m:Nat},(∀j,j<m->f j=g j∨qx ops j≠some t)->(lay ops a f m).tmps[t]?=(lay ops a g m).tmps[t]?
 |0,_=>rfl
 |m+1,h=>by
  have ih:=lM (a:=a) (f:=f) (g:=g) (t:=t) (m:=m) fun j hj=>h j (by omega)
  have hs:=(lay_size (ops:=ops) a f m).trans (lay_size (ops:=ops) a g m).symm
  have key:∀(x:Act) (u:Value),qx ops m≠some t->(x.put (qx ops m) u).tmps[t]?=x.tmps[t]?:=by
   intro x u hne
   cases hd:qx ops m with
   |none=>rfl
   |some d=>simp[Act.put,Array.getElem?_setIfInBounds_ne (show d≠t by intro e;subst e;exact hne hd)]
  simp only[lay]
  rcases h m (by omega) with he|hne
  ·rw[he]
   cases g m with
   |none=>exact ih
   |some u=>
    simp only
    by_cases hdt:qx ops m=some t
    ·rw[hdt]
     simp[Act.put,Array.getElem?_setIfInBounds,hs]
    ·rw[key _ _ hdt,key _ _ hdt,ih]
  ·have e1:(match f m with|some v=>(lay ops a f m).put (qx ops m) v|none=>lay ops a f m).tmps[t]?=(lay ops a f m).tmps[t]?:=by cases f m with|none=>rfl|some u=>exact key _ _ hne
   have e2:(match g m with|some v=>(lay ops a g m).put (qx ops m) v|none=>lay ops a g m).tmps[t]?=(lay ops a g m).tmps[t]?:=by cases g m with|none=>rfl|some u=>exact key _ _ hne
   exact e1.trans (ih.trans e2.symm)
theorem bQ(o:Oper)(hs:∀cs b,o.op≠.select cs b){x y:Act}
  (h:∀t,t∈o.looksAt ops->x.tmps[t]?=y.tmps[t]?):execOp x.eval o=execOp y.eval o/\Region.wanted o (yielded ops x.tmps)=Region.wanted o (yielded ops y.tmps):=by
 constructor
 ·refine execOp_congr o hs fun z hz=>?_
  cases z with
  |tmp t=>
   have ht:t∈o.looksAt ops:=List.mem_append_left _ (List.mem_filterMap.2 ⟨.tmp t,by simpa using hz,rfl⟩);have:=h t ht;simp only[Act.eval,Array.getD_eq_getD_getElem?,this]
  |_=>rfl
 ·unfold Region.wanted
  cases hg:o.guard with
  |none=>rfl
  |some gw=>
   obtain⟨k,want⟩:=gw
   have:yielded ops x.tmps k=yielded ops y.tmps k:=by
    unfold yielded
    cases ht:(ops[k]?).bind (·.dst) with
    |none=>rfl
    |some t=>
     have e:=h t (by simp[Oper.looksAt,hg,ht])
     simp[e]
   simp only[this]
theorem nG{a:Act}{f:Nat->Option Value}{i:Nat}:∀{m:Nat},i<=m->lay ops a (fun j=>if j<i then f j else none) m=lay ops a f i
 |0,h=>by obtain rfl:i=0:=by omega
          rfl
 |m+1,h=>by
  by_cases hi:i=m+1
  ·subst hi;exact qw fun j hj=>by simp[hj]
  ·simp only[lay,if_neg (show¬m<i by omega)];exact nG (m:=m) (by omega)
def kJ(P:Program)(w:World)(v:Value):Result Next->Prop
 |.ok (.value u) w'=>w'=w/\u=v
 |.ok .skip w'=>w'=w/\v=undef
 |.ok (.enter f args) w'=>w'=w/\Calls P f args w (fun e w''=>e=.returned v/\Below w.heap.size w w'')
 |_=>False
def wpF(U:World->Value->Result Next->Prop)(P:Program)(ops:Array Oper)(C:World->Prop)(al:Nat->Option Obj)(K:Act->Prop):Nat->List Oper->Act->Prop
 |_,[],a=>K a
 |i,o::rest,a=>match al i with
  |some obj=>(∀w,(execOp a.eval o).run P w=.ok (.value (.pointer (some ⟨w.heap.size,0,none⟩))) (w.alloc obj))/\wpF U P ops C al K (i+1) rest a
  |none=>if Region.wanted o (yielded ops a.tmps)=true then∃v,(∀w,C w->U w v ((execOp a.eval o).run P w))/\wpF U P ops C al K (i+1) rest (a.put o.dst v) else wpF U P ops C al K (i+1) rest (a.put o.dst undef)
def BL(U:World->Value->Result Next->Prop)(P:Program)(ops:Array Oper)(C:World->Prop)(al:Nat->Option Obj)(j:Nat)(o:Oper)(a:Act)(x:Option Value):Prop:=
 (∃obj,al j=some obj/\x=none/\∀w,(execOp a.eval o).run P w=.ok (.value (.pointer (some ⟨w.heap.size,0,none⟩))) (w.alloc obj))∨
 (al j=none/\∃v,x=some v/\((Region.wanted o (yielded ops a.tmps)=true/\∀w,C w->U w v ((execOp a.eval o).run P w))∨(Region.wanted o (yielded ops a.tmps)=false/\v=undef)))
theorem sK{U:World->Value->Result Next->Prop}{C:World->Prop}{al:Nat->Option Obj}{K:Act->Prop}{a:Act}:∀(l:List Oper) (i:Nat) (iD:Nat->Option Value),(∀j,j<l.length->l[j]?=ops[i+j]?)->wpF U P ops C al K i l (lay ops a iD i)->
  ∃lv:Nat->Option Value,(∀j,j<i->lv j=iD j)/\(∀j,i<=j->j<i+l.length->∀o,ops[j]?=some o->BL U P ops C al j o (lay ops a lv j) (lv j))/\K (lay ops a lv (i+l.length))
 |[],i,iD,_,h=>⟨iD,fun _ _=>rfl,fun j h1 h2=>absurd h2 (by simp;omega),h⟩
 |o::rest,i,iD,hl,h=>by
  have h0:ops[i]?=some o:=by simpa using(hl 0 (by simp)).symm
  have hd:qx ops i=o.dst:=by simp[qx,h0]
  have hl':∀j,j<rest.length->rest[j]?=ops[i+1+j]?:=fun j hj=>by
   have:=hl (j+1) (by simpa using hj)
   simpa[Nat.add_assoc,Nat.add_comm 1 j] using this
  have go:∀(x:Option Value),BL U P ops C al i o (lay ops a iD i) x->wpF U P ops C al K (i+1) rest (lay ops a (fun j=>if j=i then x else iD j) (i+1))->
    ∃lv:Nat->Option Value,(∀j,j<i->lv j=iD j)/\(∀j,i<=j->j<i+(o::rest).length->∀o',ops[j]?=some o'->BL U P ops C al j o' (lay ops a lv j) (lv j))/\K (lay ops a lv (i+(o::rest).length)):=by
   intro x hx hr;obtain⟨lv,h1,h2,h3⟩:=sK rest (i+1) _ hl' hr;have hi:lv i=x:=by rw[h1 i (by omega)];simp
   have hlt:∀j,j<i->lv j=iD j:=fun j hj=>by rw[h1 j (by omega)];simp[Nat.ne_of_lt hj]
   refine⟨lv,hlt,?_,?_⟩
   ·intro j hj1 hj2 o' ho'
    by_cases hji:j=i
    ·subst hji;rw[h0] at ho';injection ho' with ho'
     subst ho';rw[qw (f:=lv) (g:=iD) (m:=j) hlt,hi];exact hx
    ·exact h2 j (by omega) (by simp at hj2;omega) o' ho'
   ·rw[show i+(o::rest).length=i+1+rest.length by simp;omega];exact h3
  have hpre:lay ops a (fun j=>if j=i then(none:Option Value) else iD j) i=lay ops a iD i:=qw fun j hj=>by simp[Nat.ne_of_lt hj]
  have hpre':∀v,lay ops a (fun j=>if j=i then some v else iD j) (i+1)=(lay ops a iD i).put o.dst v:=fun v=>by
   simp only[lay,if_pos,hd];rw[qw (f:=fun j=>if j=i then some v else iD j) (g:=iD) (m:=i) fun j hj=>by simp[Nat.ne_of_lt hj]]
  unfold wpF at h
  cases ha:al i with
  |some obj=>
   rw[ha] at h;refine go none (.inl ⟨obj,ha,rfl,h.1⟩) ?_;simp only[lay,if_pos];rw[hpre];exact h.2
  |none=>
   rw[ha] at h
   by_cases hw:Region.wanted o (yielded ops (lay ops a iD i).tmps)=true
   ·simp only[hw,if_true] at h;obtain⟨v,h1,h2⟩:=h;exact go (some v) (.inr ⟨ha,v,rfl,.inl ⟨hw,h1⟩⟩) (by rw[hpre'];exact h2)
   ·simp only[hw] at h;exact go (some undef) (.inr ⟨ha,undef,rfl,.inr ⟨by simpa using hw,rfl⟩⟩) (by rw[hpre'];exact h)
def left(L:Array Bool):Nat->Nat
 |0=>0
 |k+1=>left L k+if L.getD k true=true then 0 else 1
theorem ND{L:Array Bool}{i:Nat}(h:L.getD i true=false):∀{k:Nat},i<k->left (L.setIfInBounds i true) k+1=left L k
 |0,hk=>absurd hk (by omega)
 |k+1,hk=>by
  have hi:i<L.size:=by
   rcases Nat.lt_or_ge i L.size with h'|h'
   ·exact h'
   ·simp[Array.getElem?_eq_none h'] at h
  by_cases hik:i=k
  ·subst hik
   have e:∀n,n<=i->left (L.setIfInBounds i true) n=left L n:=by
    intro n
    induction n with
    |zero=>intro _;rfl
    |succ n ih=>intro hn;simp only[left];rw[ih (by omega),getD_set_ne true (by omega)]
   simp only[left];rw[e i (Nat.le_refl _),h]
   simp[hi]
  ·have ih:=ND (L:=L) h (k:=k) (by omega);simp only[left];rw[getD_set_ne true hik];omega
theorem TP{L:Array Bool}:∀{k:Nat},(∀j,j<k->L.getD j true=true)->left L k=0
 |0,_=>rfl
 |k+1,h=>by simp only[left];rw[TP (k:=k) fun j hj=>h j (by omega),h k (by omega)];simp
theorem Zx{L:Array Bool}{m:Nat}(h1:∀j,j<m->L.getD j true=true):∀{k:Nat},(∀j,m<=j->j<m+k->L.getD j true=false)->left L (m+k)=k
 |0,_=>TP h1
 |k+1,h=>by
  show left L (m+k)+(if L.getD (m+k) true=true then 0 else 1)=_
  rw[Zx h1 (k:=k) fun j hj hk=>h j hj (by omega),h (m+k) (by omega) (by omega)]
  simp
theorem rV{L:Array Bool}{i:Nat}(h:L.getD i true=false){k:Nat}(hk:i<k):0<left L k:=by
 have:=ND h hk;omega
def JG(o:Oper):Bool:=o.guard.isNone&&match o.op with
 |.move _|.extract _ _=>true
 |_=>false
theorem pure_run{o:Oper}(h:JG o=true){e:Operand->Value}{w0 w:World}{v:Value}(hr:(execOp e o).run P w0=.ok (.value v) w0):(execOp e o).run P w=.ok (.value v) w:=by
 unfold JG at h;simp only[Bool.and_eq_true] at h;obtain⟨_,h⟩:=h;unfold execOp at*
 split at h
 ·rename_i x hx
  simp only[hx] at*
  simpa using hr
 ·rename_i t i hx
  simp only[hx] at*;unfold Instr.extract at*
  cases he:e t with
  |tuple vs=>
   simp only[he] at*
   cases hi:vs[i]? with
   |none=>simp[hi] at hr
   |some u=>simp only[hi] at*;simpa using hr
  |_=>simp[he] at hr
 ·cases h
def LM(md:Region.Mode)(ops:Array Oper)(m:Nat)(al:Nat->Option Obj):Bool:=
 Region.noSelect ops&&decide (m<=ops.size)&&
 ((List.range ops.size).all fun i=>match ops[i]? with
   |none=>false
   |some o=>(o.after.all fun e=>!Region.binds md e||decide (e.on<i))&&
     (if i<m then((List.range ops.size).all fun j=>match qx ops j with
         |none=>true
         |some t=>!(o.looksAt ops).contains t||(decide (j<i)&&(al j).isNone&&o.after.any fun e=>Region.binds md e&&e.on==j))&&((al i).isNone||o.guard.isNone)
       else(al i).isNone&&!JG o&&(List.range i).all fun j=>(o.after.any fun e=>Region.binds md e&&e.on==j)||(((ops[j]?).map JG).getD false&&match qx ops j with|none=>true|some t=>!(o.looksAt ops).contains t)))&&
 ((List.range ops.size).all fun i=>(List.range ops.size).all fun j=>i==j||match qx ops i,qx ops j with
   |some x,some y=>x != y
   |_,_=>true)
structure VH(md:Region.Mode)(ops:Array Oper)(m:Nat)(al:Nat->Option Obj):Prop where
 sel:∀(i:Nat) (o:Oper) cs b,ops[i]?=some o->o.op≠.select cs b
 le:m<=ops.size
 back:∀(i:Nat) (o:Oper),ops[i]?=some o->∀e∈o.after,Region.binds md e=true->e.on<i
 reads:∀(i:Nat) (o:Oper),ops[i]?=some o->i<m->∀j t,qx ops j=some t->t∈o.looksAt ops->j<i/\al j=none/\∃e∈o.after,Region.binds md e=true/\e.on=j
 plain:∀(i:Nat) (o:Oper),ops[i]?=some o->i<m->al i≠none->o.guard=none
 late:∀(i:Nat) (o:Oper),ops[i]?=some o->m<=i->al i=none/\JG o=false/\∀j,j<i->(∃e∈o.after,Region.binds md e=true/\e.on=j)∨(∃oj,ops[j]?=some oj/\JG oj=true)/\∀t,qx ops j=some t->t∉o.looksAt ops
 apart:∀j k t,qx ops j=some t->qx ops k=some t->j=k
theorem YM{j:Nat}{t:Tmp}(h:qx ops j=some t):j<ops.size:=by
 rcases Nat.lt_or_ge j ops.size with h'|h'
 ·exact h'
 ·simp[qx,Array.getElem?_eq_none h'] at h
theorem iJ{m:Nat}{al:Nat->Option Obj}(h:LM md ops m al=true):VH md ops m al:=by
 unfold LM at h;simp only[Bool.and_eq_true,decide_eq_true_eq,List.all_eq_true,List.mem_range] at h;obtain⟨⟨⟨h1,h2⟩,h3⟩,h4⟩:=h;have lt:∀i o,ops[i]?=some o->i<ops.size:=fun i o ho=>(J6.1 ho).1
 refine⟨fun i o cs b ho=>Region.noSelect_spec h1 i o cs b ho,h2,?_,?_,?_,?_,?_⟩
 ·intro i o ho e he hb;have:=h3 i (lt i o ho);simp only[ho,Bool.and_eq_true] at this;have:=Array.all_eq_true_iff_forall_mem.1 this.1 e he
  simpa[hb] using this
 ·intro i o ho hi j t hd ht;have:=h3 i (lt i o ho);simp only[ho,Bool.and_eq_true,if_pos hi] at this;have:=(List.all_eq_true.1 this.2.1) j (List.mem_range.2 (YM hd));simp only[hd] at this;have hc:(o.looksAt ops).contains t=true:=by simpa using ht
  simp only[hc,Bool.not_true,Bool.false_or,Bool.and_eq_true,decide_eq_true_eq,Option.isNone_iff_eq_none] at this;obtain⟨⟨a1,a2⟩,a3⟩:=this;rw[Array.any_eq_true'] at a3;obtain⟨e,he,hb⟩:=a3;simp only[Bool.and_eq_true,beq_iff_eq] at hb;exact⟨a1,a2,e,he,hb.1,hb.2⟩
 ·intro i o ho hi ha;have:=h3 i (lt i o ho);simp only[ho,Bool.and_eq_true,if_pos hi,Bool.or_eq_true,Option.isNone_iff_eq_none] at this;exact this.2.2.resolve_left ha
 ·intro i o ho hi;have:=h3 i (lt i o ho);simp only[ho,Bool.and_eq_true,if_neg (show¬i<m by omega),Option.isNone_iff_eq_none,List.all_eq_true,List.mem_range] at this;refine⟨this.2.1.1,by simpa using this.2.1.2,fun j hj=>?_⟩;have:=this.2.2 j hj;simp only[Bool.or_eq_true,Bool.and_eq_true] at this
  rcases this with this|⟨hp,hl⟩
  ·rw[Array.any_eq_true'] at this;obtain⟨e,he,hb⟩:=this;simp only[Bool.and_eq_true,beq_iff_eq] at hb;exact .inl ⟨e,he,hb.1,hb.2⟩
  ·right
   constructor
   ·cases hj':ops[j]? with
    |none=>simp[hj'] at hp
    |some oj=>exact⟨oj,rfl,by simpa[hj'] using hp⟩
   ·intro t ht;simp only[ht] at hl
    simpa using hl
 ·intro j k t hj hk;have:=h4 j (YM hj) k (YM hk);simp only[hj,hk,Bool.or_eq_true,beq_iff_eq] at this
  rcases this with h|h
  ·exact h
  ·simp at h
theorem qd{L:Array Bool}{j:Nat}(h:L.getD j false=true):L.getD j true=true:=by
 rcases Nat.lt_or_ge j L.size with h'|h'
 ·simpa[h'] using h
 ·simp[Array.getElem?_eq_none h'] at h
theorem Ja{L:Array Bool}{j:Nat}(hj:j<L.size)(h:L.getD j true=true):L.getD j false=true:=by simpa[hj] using h
theorem NF{L:Array Bool}{i:Nat}(h:i<L.size):(L.setIfInBounds i true).getD i true=true:=by simp[h]
theorem vY{Q:Exit->Act->World->Prop}{m:Nat}{al:Nat->Option Obj}(hF:VH md ops m al):∀(l:List Oper) (k:Nat) (L:Array Bool) (a:Act) (w:World),(∀j,j<l.length->l[j]?=ops[k+j]?)->
  k+l.length=ops.size->m<=k->(∀j,j<k->L.getD j false=true)->(∀j,k<=j->j<ops.size->L.getD j true=false)->wpList P ops Q l a w->wpAny P md ops Q l.length L a w
 |[],k,L,a,w,_,hk,_,h1,_,h=>by
  refine⟨?_,h⟩;rw[List.eq_nil_iff_forall_not_mem];intro i hi;obtain⟨hu,o,ho,_⟩:=mem_ready.1 hi;have:=(J6.1 ho).1
  simp at hk
  rw[qd (h1 i (by omega))] at hu
  cases hu
 |o::rest,k,L,a,w,hl,hk,hm,h1,h2,h=>by
  have h0:ops[k]?=some o:=by simpa using(hl 0 (by simp)).symm
  have hkn:k<ops.size:=by simp at hk;omega
  have DC:k∈Region.ready md ops L:=mem_ready.2 ⟨h2 k (Nat.le_refl _) hkn,o,h0,fun e he hb=>h1 _ (hF.back k o h0 e he hb)⟩;refine⟨fun h'=>(by rw[h'] at DC;cases DC),fun i hi=>?_⟩;obtain⟨hu,oi,hoi,hall⟩:=mem_ready.1 hi;have hin:=(J6.1 hoi).1
  have hik:k<=i:=by
   rcases Nat.lt_or_ge i k with h'|h'
   ·rw[qd (h1 i h')] at hu;cases hu
   ·exact h'
  have hki:i=k:=by
   rcases Nat.lt_or_ge k i with h'|h'
   ·rcases(hF.late i oi hoi (by omega)).2.2 k h' with⟨e,he,hb,hon⟩|⟨⟨ok,hok,hp⟩,_⟩
    ·have:=hall e he hb;rw[hon] at this;have:=qd this;rw[h2 k (Nat.le_refl _) hkn] at this
     cases this
    ·rw[h0] at hok
     cases hok
     rw[(hF.late k o h0 hm).2.1] at hp
     cases hp
   ·omega
  subst hki
  have hL:i<L.size:=by
   rcases Nat.lt_or_ge i L.size with h'|h'
   ·exact h'
   ·simp[Array.getElem?_eq_none h'] at hu
  have go:∀a' w',wpList P ops Q rest a' w'->wpAny P md ops Q rest.length (L.setIfInBounds i true) a' w':=fun a' w' h'=>
   vY hF rest (i+1) _ a' w' (fun j hj=>by
    have:=hl (j+1) (by simpa using hj)
    simpa[Nat.add_assoc,Nat.add_comm 1 j] using this) (by simp at hk;omega) (by omega)
    (fun j hj=>by
     by_cases hji:j=i
     ·subst hji;simp[hL]
     ·exact getD_set_true (h1 j (by omega)))
    (fun j hj hj2=>by rw[getD_set_ne true (by omega)];exact h2 j (by omega) hj2) h'
  have hw:wpOp P ops Q i (wpList P ops Q rest) a w:=by
   unfold wpOp;simp only[h0];exact h
  exact wpOp_mono (fun a' w' h'=>go a' w' h') hw
def gone(al:Nat->Option Obj)(lv:Nat->Option Value)(L:Array Bool)(bs:Nat->Nat)(j:Nat):Option Value:=
 if L.getD j true=true then(if(al j).isSome then some (.pointer (some ⟨bs j,0,none⟩)) else lv j) else none
structure Born(al:Nat->Option Obj)(m N:Nat)(L:Array Bool)(bs:Nat->Nat)(w:World):Prop where
 at_:∀j obj,j<m->L.getD j true=true->al j=some obj->N<=bs j/\w.heap[bs j]?=some obj
 apart:∀j k,j<m->k<m->L.getD j true=true->L.getD k true=true->al j≠none->al k≠none->j≠k->bs j≠bs k
def over(ops:Array Oper)(al:Nat->Option Obj)(bs:Nat->Nat)(a:Act):Nat->Act
 |0=>a
 |k+1=>match al k with
  |some _=>(over ops al bs a k).put (qx ops k) (.pointer (some ⟨bs k,0,none⟩))
  |none=>over ops al bs a k
theorem dV{al:Nat->Option Obj}{lv:Nat->Option Value}{bs:Nat->Nat}{a:Act}{m:Nat}(hd:∀j k t,qx ops j=some t->qx ops k=some t->j=k)(hn:∀j,al j≠none->j<m->lv j=none):
  ∀{k:Nat},k<=m->over ops al bs (lay ops a lv m) k=lay ops a (fun j=>if j<k/\(al j).isSome=true then some (.pointer (some ⟨bs j,0,none⟩)) else lv j) m
 |0,_=>qw fun j _=>by simp
 |k+1,hk=>by
  have ih:=dV (lv:=lv) (bs:=bs) (a:=a) hd hn (k:=k) (by omega)
  cases ha:al k with
  |none=>
   simp only[over,ha];rw[ih];refine qw fun j _=>?_
   by_cases hjk:j=k
   ·subst hjk;simp[ha]
   ·simp only[show(j<k+1↔j<k) from by omega]
  |some obj=>
   simp only[over,ha];rw[ih,YJ hd (by simp[hn k (by simp[ha]) (by omega)]) (by omega)];refine qw fun j _=>?_
   by_cases hjk:j=k
   ·subst hjk;simp[ha]
   ·simp only[if_neg hjk,show(j<k+1↔j<k) from by omega]
theorem QT{L:Array Bool}:∀{m:Nat},(¬∀j,j<m->L.getD j true=true)->∃i,i<m/\L.getD i true=false/\∀j,j<i->L.getD j true=true
 |0,h=>absurd (fun j hj=>absurd hj (by omega)) h
 |m+1,h=>by
  by_cases hm:∀j,j<m->L.getD j true=true
  ·refine⟨m,by omega,?_,hm⟩
   cases hv:L.getD m true with
   |false=>rfl
   |true=>exact absurd (fun j hj=>by
     by_cases hjm:j=m
     ·subst hjm;exact hv
     ·exact hm j (by omega)) h
  ·obtain⟨i,h1,h2,h3⟩:=QT hm;exact⟨i,by omega,h2,h3⟩
theorem finish{Q:Exit->Act->World->Prop}{m:Nat}{al:Nat->Option Obj}(hF:VH md ops m al){lv:Nat->Option Value}{a:Act}{w0:World}(hlvn:∀j,al j≠none->j<m->lv j=none)
  (hend:∀bs w',Below w0.heap.size w0 w'->(∀j obj,j<m->al j=some obj->w0.heap.size<=bs j/\w'.heap[bs j]?=some obj)->(∀j k,j<m->k<m->al j≠none->al k≠none->j≠k->bs j≠bs k)->
   wpList P ops Q (ops.toList.drop m) (over ops al bs (lay ops a lv m) m) w') {fuel:Nat} {L:Array Bool} {bs:Nat->Nat} {w':World} (hs:L.size=ops.size) (hf:left L ops.size=fuel) (dJ:∀j,m<=j->j<ops.size->L.getD j true=false)
  (hB:Below w0.heap.size w0 w') (hborn:Born al m w0.heap.size L bs w') (hall:∀j,j<m->L.getD j true=true):wpAny P md ops Q fuel L (lay ops a (gone al lv L bs) m) w':=by
 have hm:=hF.le;have hlen:(ops.toList.drop m).length=ops.size-m:=by simp
 have hfu:fuel=(ops.toList.drop m).length:=by
  have:=Zx (L:=L) (m:=m) hall (k:=ops.size-m) fun j h1 h2=>dJ j h1 (by omega)
  rw[show m+(ops.size-m)=ops.size by omega] at this;omega
 have hst:lay ops a (gone al lv L bs) m=over ops al bs (lay ops a lv m) m:=by
  rw[dV hF.apart hlvn (Nat.le_refl _)];refine qw fun j hj=>?_
  simp[gone,hall j hj,hj]
 rw[hfu,hst];refine vY hF (ops.toList.drop m) m L _ w' ?_ (by omega) (Nat.le_refl _) (fun j hj=>Ja (by omega) (hall j hj)) (fun j h1 h2=>dJ j h1 h2) ?_
 ·intro j hj
  simp
 ·exact hend bs w' hB (fun j obj hj ha=>hborn.at_ j obj hj (hall j hj) ha) (fun j k hj hk haj hak hjk=>hborn.apart j k hj hk (hall j hj) (hall k hk) haj hak hjk)
theorem dW{al:Nat->Option Obj}{lv:Nat->Option Value}{L:Array Bool}{bs bs':Nat->Nat}{i m:Nat}{a:Act}{v:Value}(hd:∀j k t,qx ops j=some t->qx ops k=some t->j=k)(hL:L.getD i true=false)(hi:i<m)
  (hv:(if(al i).isSome then some (.pointer (some ⟨bs' i,0,none⟩)) else lv i)=some v) (hb:∀j,j≠i->bs' j=bs j):
  (lay ops a (gone al lv L bs) m).put (qx ops i) v=lay ops a (gone al lv (L.setIfInBounds i true) bs') m:=by
 rw[YJ hd (by simp[gone,hL]) hi];refine qw fun j _=>?_
 have hs:i<L.size:=by
  rcases Nat.lt_or_ge i L.size with h'|h'
  ·exact h'
  ·simp[Array.getElem?_eq_none h'] at hL
 by_cases hji:j=i
 ·subst hji;simp only[if_pos,gone,NF hs];exact hv.symm
 ·simp only[if_neg hji,gone,getD_set_ne true (Ne.symm hji),hb j hji]
theorem phase1{Q:Exit->Act->World->Prop}{m:Nat}{al:Nat->Option Obj}(hF:VH md ops m al)(hQ:∀(d:Tmp) v c a w,Q (.panic c) (a.put (some d) v) w->Q (.panic c) a w){lv:Nat->Option Value}{a:Act}{w0:World}
  (hok:∀j,j<m->∀o,ops[j]?=some o->BL (kJ P) P ops (fun w=>Below w0.heap.size w0 w) al j o (lay ops a lv j) (lv j))
  (hend:∀bs w',Below w0.heap.size w0 w'->(∀j obj,j<m->al j=some obj->w0.heap.size<=bs j/\w'.heap[bs j]?=some obj)->(∀j k,j<m->k<m->al j≠none->al k≠none->j≠k->bs j≠bs k)->
   wpList P ops Q (ops.toList.drop m) (over ops al bs (lay ops a lv m) m) w'):
  ∀(fuel:Nat) (L:Array Bool) (bs:Nat->Nat) (w':World),L.size=ops.size->left L ops.size=fuel->(∀j,m<=j->j<ops.size->L.getD j true=false)->Below w0.heap.size w0 w'->Born al m w0.heap.size L bs w'->
   wpAny P md ops Q fuel L (lay ops a (gone al lv L bs) m) w':=by
 have hlvn:∀j,al j≠none->j<m->lv j=none:=by
  intro j hj hjm;have hjo:j<ops.size:=by have:=hF.le;omega
  rcases hok j hjm ops[j] (by simp[hjo]) with⟨_,_,h,_⟩|⟨h,_⟩
  ·exact h
  ·exact absurd h hj
 intro fuel
 induction fuel with
 |zero=>
  intro L bs w' hs hf dJ hB hborn
  have hall:∀j,j<m->L.getD j true=true:=by
   intro j hj
   cases hv:L.getD j true with
   |true=>rfl
   |false=>have:=rV hv (k:=ops.size) (by have:=hF.le;omega);omega
  exact finish hF hlvn hend hs hf dJ hB hborn hall
 |succ fuel ih=>
  intro L bs w' hs hf dJ hB hborn
  by_cases hall:∀j,j<m->L.getD j true=true
  ·exact finish hF hlvn hend hs hf dJ hB hborn hall
  ·have hm:=hF.le
   have next:∀i o v,ops[i]?=some o->i<m->L.getD i true=false->al i=none->lv i=some v->∀w'',Below w'.heap.size w' w''->wpAny P md ops Q fuel (L.setIfInBounds i true) ((lay ops a (gone al lv L bs) m).put o.dst v) w'':=by
    intro i o v ho him hu ha hx w'' hb;have hin:=(J6.1 ho).1;have hd:qx ops i=o.dst:=by simp[qx,ho]
    have hleft:left (L.setIfInBounds i true) ops.size=fuel:=by
     have:=ND hu (k:=ops.size) hin;omega
    have UY:∀j,m<=j->j<ops.size->(L.setIfInBounds i true).getD j true=false:=fun j h1 h2=>by rw[getD_set_ne true (by omega)];exact dJ j h1 h2
    rw[<-hd,dW (bs':=bs) hF.apart hu him (by simp[ha,hx]) fun _ _=>rfl];refine ih _ _ _ (by simp[hs]) hleft UY (hB.trans (hb.mono hB.size)) ⟨?_,?_⟩
    ·intro j obj' hj hl haj;have hji:j≠i:=fun h=>by subst h;rw[ha] at haj;cases haj
     rw[getD_set_ne true (Ne.symm hji)] at hl;have:=hborn.at_ j obj' hj hl haj;exact⟨this.1,(hb.block _ (J6.1 this.2).1).trans this.2⟩
    ·intro j k hj hk hlj hlk haj hak hjk;have hji:j≠i:=fun h=>by subst h;exact haj ha
     have hki:k≠i:=fun h=>by subst h;exact hak ha
     rw[getD_set_ne true (Ne.symm hji)] at hlj;rw[getD_set_ne true (Ne.symm hki)] at hlk;exact hborn.apart j k hj hk hlj hlk haj hak hjk
   have same:∀i o,ops[i]?=some o->i<m->i∈Region.ready md ops L->execOp (lay ops a (gone al lv L bs) m).eval o=execOp (lay ops a lv i).eval o/\Region.wanted o (yielded ops (lay ops a (gone al lv L bs) m).tmps)=Region.wanted o (yielded ops (lay ops a lv i).tmps):=by
    intro i o ho him hi;obtain⟨hu,o',ho',hall'⟩:=mem_ready.1 hi;rw[ho] at ho'
    cases ho'
    refine bQ (ops:=ops) o (hF.sel i o · · ho) (x:=lay ops a (gone al lv L bs) m) (y:=lay ops a lv i) (fun t ht=>?_);rw[<-nG (a:=a) (f:=lv) (Nat.le_of_lt him)];refine lM fun j hj=>?_
    by_cases hdt:qx ops j=some t
    ·obtain⟨h1,h2,e,he,hb,hon⟩:=hF.reads i o ho him j t hdt ht;have:=qd (hall' e he hb);rw[hon] at this
     left
     simp[gone,this,h2,h1]
    ·exact .inr hdt
   by_cases hp:∃i o,i<m/\i∈Region.ready md ops L/\ops[i]?=some o/\JG o=true
   ·-- an operation that looks at no world:it is taken first
    obtain⟨i,o,him,hi,ho,hpo⟩:=hp;obtain⟨hu,o',ho',hall'⟩:=mem_ready.1 hi;rw[ho] at ho'
    cases ho'
    have hg:o.guard=none:=by unfold JG at hpo;simp at hpo;exact hpo.1
    have hw:Region.wanted o (yielded ops (lay ops a lv i).tmps)=true:=by simp[Region.wanted,hg]
    have hsame:=same i o ho him hi
    rcases hok i him o ho with⟨obj,ha,hx,hrun⟩|⟨ha,v,hx,hcase⟩
    ·have h1:=pure_run hpo (w:=w0) (v:=.pointer (some ⟨w0.heap.size,0,none⟩)) (e:=(lay ops a lv i).eval) (w0:=w0) (P:=P);have h2:=hrun w0
     exfalso
     have hal:∀e w,(execOp e o).run P w=.ok (.value (.pointer (some ⟨w.heap.size,0,none⟩))) (w.alloc obj)->False:=by
      intro e w h;unfold JG at hpo;simp only[Bool.and_eq_true] at hpo;have hpo:=hpo.2
      have hne:w≠w.alloc obj:=fun h=>by
       have:=congrArg (fun x=>x.heap.size) h
       simp at this
      unfold execOp at h
      split at hpo
      ·rename_i x hx
       simp only[hx] at h
       simp at h
       exact hne h.2
      ·rename_i t i hx
       simp only[hx] at h;unfold Instr.extract at h
       cases he:e t with
       |tuple vs=>
        simp only[he] at h
        cases hi:vs[i]? with
        |none=>simp[hi] at h
        |some u=>simp only[hi] at h;simp at h;exact hne h.2
       |_=>simp[he] at h
      ·cases hpo
     exact hal _ _ h2
    ·have hyield:∀w,(execOp (lay ops a (gone al lv L bs) m).eval o).run P w=.ok (.value v) w:=by
      intro w;rw[hsame.1]
      rcases hcase with⟨_,hup⟩|⟨hw',_⟩
      ·have:=hup w0 U3
       have hval:(execOp (lay ops a lv i).eval o).run P w0=.ok (.value v) w0:=by
        revert this
        have hkind:∀e,(∃u,(execOp e o).run P w0=.ok (.value u) w0)∨∃x ww,(execOp e o).run P w0=.halt x ww:=by
         intro e;unfold JG at hpo;simp only[Bool.and_eq_true] at hpo;have hpo:=hpo.2;unfold execOp
         split at hpo
         ·rename_i x hx
          simp only[hx];exact .inl ⟨_,rfl⟩
         ·rename_i t i hx
          simp only[hx];unfold Instr.extract
          cases he:e t with
          |tuple vs=>
           cases hi:vs[i]? with
           |none=>right;simp[hi]
           |some u=>left;simp[hi]
          |_=>right;exact⟨_,_,rfl⟩
         ·cases hpo
        rcases hkind (lay ops a lv i).eval with⟨u,hu⟩|⟨x,ww,hu⟩
        ·rw[hu];rintro⟨_,rfl⟩;rfl
        ·rw[hu];intro h;exact h.elim
       exact pure_run hpo hval
      ·rw[hw] at hw';cases hw'
     refine wpAny_first (v:=v) ho hF.sel (fun c a1 w1 h=>?_) fuel L _ w' ?_ hi (.inl ⟨by rw[hsame.2];exact hw,hyield⟩) (next i o v ho him hu ha hx w' U3)
     ·cases hdo:o.dst with
      |none=>rw[hdo] at h;exact h
      |some d=>rw[hdo] at h;exact hQ d v c a1 w1 h
     ·intro j oj hoj hji huj hno;have hjn:=(J6.1 hoj).1;have dj:qx ops j=oj.dst:=by simp[qx,hoj]
      have di:qx ops i=o.dst:=by simp[qx,ho]
      have p1:∀d,o.dst=some d->d∉oj.looksAt ops:=by
       intro d hd ht
       rcases Nat.lt_or_ge j m with hjm|hjm
       ·obtain⟨_,_,e,he,hb,hon⟩:=hF.reads j oj hoj hjm i d (di.trans hd) ht;exact hno e he hb hon
       ·rcases(hF.late j oj hoj hjm).2.2 i (by omega) with⟨e,he,hb,hon⟩|⟨_,hl⟩
        ·exact hno e he hb hon
        ·exact hl d (di.trans hd) ht
      have p2:∀d,o.dst=some d->oj.dst≠some d:=fun d hd h=>hji (hF.apart j i d (dj.trans h) (di.trans hd))
      have p3:∀d,oj.dst=some d->d∉o.looksAt ops:=by
       intro d hd ht;obtain⟨_,_,e,he,hb,hon⟩:=hF.reads i o ho him j d (dj.trans hd) ht;have:=qd (hall' e he hb);rw[hon,huj] at this
       cases this
      unfold Oper.apart
      cases hdo:o.dst with
      |none=>
       cases hdj:oj.dst with
       |none=>rfl
       |some d=>simpa using p3 d hdj
      |some d=>
       have a1:=p1 d hdo;have a2:=p2 d hdo
       cases hdj:oj.dst with
       |none=>simpa[hdj] using a1
       |some d'=>
        have a3:=p3 d' hdj;rw[hdj] at a2;have a2':d'≠d:=fun h=>a2 (by rw[h])
        simp[a1,a3,a2']
   obtain⟨i0,hi0,hu0,hb0⟩:=QT hall
   have DC:i0∈Region.ready md ops L:=mem_ready.2 ⟨hu0,ops[i0],by simp,fun e he hb=>by
    have:=hF.back i0 ops[i0] (by simp) e he hb
    exact Ja (by omega) (hb0 _ this)⟩
   refine⟨fun h'=>(by rw[h'] at DC;cases DC),fun i hi=>?_⟩;obtain⟨hu,o,ho,hall'⟩:=mem_ready.1 hi;have hin:=(J6.1 ho).1;have hd:qx ops i=o.dst:=by simp[qx,ho]
   have him:i<m:=by
    rcases Nat.lt_or_ge i m with h'|h'
    ·exact h'
    ·rcases(hF.late i o ho h').2.2 i0 (by omega) with⟨e,he,hb,hon⟩|⟨⟨oj,hoj,hpj⟩,_⟩
     ·have:=qd (hall' e he hb);rw[hon,hu0] at this
      cases this
     ·exact absurd ⟨i0,oj,hi0,DC,hoj,hpj⟩ hp
   have hlt:i<L.size:=by omega
   have hleft:left (L.setIfInBounds i true) ops.size=fuel:=by
    have:=ND hu (k:=ops.size) hin;omega
   have UY:∀j,m<=j->j<ops.size->(L.setIfInBounds i true).getD j true=false:=fun j h1 h2=>by rw[getD_set_ne true (by omega)];exact dJ j h1 h2
   have hsame:=same i o ho him hi;unfold wpOp;simp only[ho,hsame.2]
   rcases hok i him o ho with⟨obj,ha,hx,hrun⟩|⟨ha,v,hx,hcase⟩
   ·have hg:=hF.plain i o ho him (by simp[ha]);have hw:Region.wanted o (yielded ops (lay ops a lv i).tmps)=true:=by simp[Region.wanted,hg]
    simp only[hw,if_true]
    left
    unfold Oper.wp;rw[hsame.1,hrun w']
    show wpAny P md ops Q fuel _ _ _
    have hbs:∀j,j≠i->(fun j=>if j=i then w'.heap.size else bs j) j=bs j:=fun j hj=>by simp[hj]
    rw[<-hd,dW (bs':=fun j=>if j=i then w'.heap.size else bs j) hF.apart hu him (by simp[ha]) hbs];refine ih _ _ _ (by simp[hs]) hleft UY (hB.alloc hB.size obj) ⟨?_,?_⟩
    ·intro j obj' hj hl haj
     by_cases hji:j=i
     ·subst hji;rw[ha] at haj;injection haj with haj
      subst haj;simp only[if_true];exact⟨hB.size,show(w'.heap.push _)[w'.heap.size]?=some _ by simp⟩
     ·rw[getD_set_ne true (Ne.symm hji)] at hl;have:=hborn.at_ j obj' hj hl haj;simp only[if_neg hji];refine⟨this.1,?_⟩;rw[Below.heap_alloc]
      ·exact this.2
      ·exact(J6.1 this.2).1
    ·intro j k hj hk hlj hlk haj hak hjk
     by_cases hji:j=i
     ·subst hji;rw[getD_set_ne true hjk] at hlk;obtain⟨ok,hok'⟩:=Option.ne_none_iff_exists'.1 hak;have:=(J6.1 (hborn.at_ k ok hk hlk hok').2).1;simp only[if_true,if_neg (Ne.symm hjk)];omega
     ·rw[getD_set_ne true (Ne.symm hji)] at hlj
      by_cases hki:k=i
      ·subst hki;obtain⟨oj,hoj'⟩:=Option.ne_none_iff_exists'.1 haj;have:=(J6.1 (hborn.at_ j oj hj hlj hoj').2).1;simp only[if_true,if_neg hji];omega
      ·rw[getD_set_ne true (Ne.symm hki)] at hlk;simp only[if_neg hji,if_neg hki];exact hborn.apart j k hj hk hlj hlk haj hak hjk
   ·have next:=next i o v ho him hu ha hx
    rcases hcase with⟨hw,hup⟩|⟨hw,hv⟩
    ·simp only[hw,if_true]
     left
     unfold Oper.wp;rw[hsame.1];have:=hup w' hB
     revert this
     cases(execOp (lay ops a lv i).eval o).run P w' with
     |halt x ww=>intro h;exact h.elim
     |ok n ww=>
      cases n with
      |value u=>
       rintro⟨rfl,rfl⟩;exact next _ U3
      |skip=>
       rintro⟨rfl,rfl⟩;exact next _ U3
      |enter f args=>
       rintro⟨rfl,h⟩;refine Calls.mono h ?_;rintro e w'' ⟨rfl,hb⟩;exact next _ hb
      |_=>intro h;exact h.elim
    ·subst hv;simp only[hw];exact next _ U3
theorem BQ{C:World->Prop}{al:Nat->Option Obj}{K:Act->Prop}:∀(n i:Nat) (l:List Oper) (a:Act),(∀j,i<=j->j<i+n->al j=none)->n<=l.length->
  wpQuiet P ops C (fun a'=>wpF (Oper.quietUpon P C) P ops C al K (i+n) (l.drop n) a') (l.take n) a->wpF (Oper.quietUpon P C) P ops C al K i l a
 |0,i,l,a,_,_,h=>h
 |n+1,i,[],a,_,hn,h=>absurd hn (by simp)
 |n+1,i,o::l,a,hal,hn,h=>by
  have hi:=hal i (Nat.le_refl _) (by omega);have ih:=fun a'=>BQ (C:=C) (al:=al) (K:=K) n (i+1) l a' (fun j h1 h2=>hal j (by omega) (by omega)) (by simpa using hn)
  have e:i+1+n=i+(n+1):=by omega
  rw[e] at ih;unfold wpF;rw[hi];simp only;rw[List.take_succ_cons] at h;unfold wpQuiet at h
  split
  ·rename_i hw
   rw[if_pos hw] at h;obtain⟨v,h1,h2⟩:=h;exact⟨v,h1,ih _ h2⟩
  ·rename_i hw
   rw[if_neg hw] at h;exact ih _ h
theorem zL{C:World->Prop}{al:Nat->Option Obj}{K:Act->Prop}{i:Nat}{l:List Oper}{a:Act}(n:Nat)(k:wpQuiet P ops C (fun a'=>wpF (Oper.quietUpon P C) P ops C al K (i+n) (l.drop n) a') (l.take n) a)(h1:∀j,i<=j->j<i+n->al j=none:=by exact fun _ _ _=>rfl)(h2:n<=l.length:=by decide):wpF (Oper.quietUpon P C) P ops C al K i l a:=BQ n i l a h1 h2 k
theorem jS{U:World->Value->Result Next->Prop}{C:World->Prop}{al:Nat->Option Obj}{K:Act->Prop}{i:Nat}{a:Act}(h:K a):wpF U P ops C al K i [] a:=h
theorem DF{C1 C2:World->Prop}{w:World}{v1 v2:Value}{r:Result Next}(h1:Oper.quietUpon P C1 w v1 r)(h2:Oper.quietUpon P C2 w v2 r):v1=v2:=by
 cases r with
 |halt x ww=>exact h1.elim
 |ok n ww=>
  cases n with
  |value u=>exact h1.2.symm.trans h2.2
  |skip=>exact h1.2.trans h2.2.symm
  |enter f args=>exact kQ h1.2 h2.2
  |_=>exact h1.elim
theorem vals_one{C1 C2:World->Prop}{al:Nat->Option Obj}{yY sO:Nat->Option Value}{a:Act}{m:Nat}(hm:m<=ops.size){u:World}(hu1:C1 u)(hu2:C2 u)
  (h1:∀j,j<m->∀o,ops[j]?=some o->BL (Oper.quietUpon P C1) P ops C1 al j o (lay ops a yY j) (yY j)) (h2:∀j,j<m->∀o,ops[j]?=some o->BL (Oper.quietUpon P C2) P ops C2 al j o (lay ops a sO j) (sO j)):
  ∀k,k<=m->∀j,j<k->yY j=sO j:=by
 intro k
 induction k with
 |zero=>intro _ j hj;omega
 |succ k ih=>
  intro hk j hj;have ih:=ih (by omega)
  by_cases hjk:j=k
  ·subst hjk;have ho:ops[j]?=some ops[j]:=by simp
   have a1:=h1 j (by omega) _ ho;have a2:=h2 j (by omega) _ ho;rw[qw (f:=yY) (g:=sO) ih] at a1
   rcases a1 with⟨obj,ha,hx,hr⟩|⟨ha,v,hx,hc⟩
   ·rcases a2 with⟨obj',ha',hx',hr'⟩|⟨ha',_⟩
    ·rw[hx,hx']
    ·rw[ha] at ha';cases ha'
   ·rcases a2 with⟨obj',ha',hx',hr'⟩|⟨ha',v',hx',hc'⟩
    ·rw[ha] at ha';cases ha'
    ·rw[hx,hx']
     rcases hc with⟨hw,hc⟩|⟨hw,hc⟩
     ·rcases hc' with⟨hw',hc'⟩|⟨hw',hc'⟩
      ·rw[DF (hc u hu1) (hc' u hu2)]
      ·rw[hw] at hw';cases hw'
     ·rcases hc' with⟨hw',hc'⟩|⟨hw',hc'⟩
      ·rw[hw] at hw';cases hw'
      ·rw[hc,hc']
  ·exact ih j (by omega)
theorem xJ{id:Nat}{Q:Exit->Act->World->Prop}{a:Act}{w:World}{l:List Oper}(m:Nat)(al:Nat->Option Obj)(hm:P.follows .mixedOrders=true)(hB:LM .any l.toArray m al=true)(hQ:∀(d:Tmp) v c a w,Q (.panic c) (a.put (some d) v) w->Q (.panic c) a w)
  (h:∀F:World->Prop,Nonempty (Wd F)->(∀w1 w2,F w1->Below w1.heap.size w1 w2->F w2)->(∀w1,F w1->Below w.heap.size w w1)->
   wpF (Oper.quietUpon P fun w'=>∃x:Wd F,w'=x.world) P l.toArray (fun w'=>∃x:Wd F,w'=x.world) al (fun a'=>∀bs w',Below w.heap.size w w'->(∀j obj,j<m->al j=some obj->w.heap.size<=bs j/\w'.heap[bs j]?=some obj)->(∀j k,j<m->k<m->al j≠none->al k≠none->j≠k->bs j≠bs k)->
    wpList P l.toArray Q (l.drop m) (over l.toArray al bs a' m) w') 0 (l.take m) a):(Code.region id l.toArray true).wp P Q a w:=by
 have hF:=iJ hB;have hle:m<=l.length:=by simpa using hF.le
 refine wp_region_any hm ?_
 have walk:∀u,Below w.heap.size w u->∃lv:Nat->Option Value,(∀j,j<m->∀o,l.toArray[j]?=some o->BL (Oper.quietUpon P fun w'=>∃x:Wd fun w1=>Below u.heap.size u w1,w'=x.world) P l.toArray (fun w'=>∃x:Wd fun w1=>Below u.heap.size u w1,w'=x.world) al j o (lay l.toArray a lv j) (lv j))/\
   (∀bs w',Below w.heap.size w w'->(∀j obj,j<m->al j=some obj->w.heap.size<=bs j/\w'.heap[bs j]?=some obj)->(∀j k,j<m->k<m->al j≠none->al k≠none->j≠k->bs j≠bs k)->
    wpList P l.toArray Q (l.drop m) (over l.toArray al bs (lay l.toArray a lv m) m) w'):=by
  intro u hu
  obtain⟨lv,_,h2,h3⟩:=sK (iD:=fun _=>none) (l.take m) 0 (fun j hj=>by
   simp at hj
   simp[hj]) (h (fun w1=>Below u.heap.size u w1) ⟨⟨u,U3⟩⟩ (fun w1 w2 h1 h2=>jm h1 h2) (fun w1 h1=>jm hu h1))
  simp only[List.length_take,Nat.min_eq_left hle,Nat.zero_add] at h2 h3;exact⟨lv,fun j hj o ho=>h2 j (Nat.zero_le _) hj o ho,h3⟩
 obtain⟨lv,h2,h3⟩:=walk w U3
 have hok:∀j,j<m->∀o,l.toArray[j]?=some o->BL (kJ P) P l.toArray (fun w'=>Below w.heap.size w w') al j o (lay l.toArray a lv j) (lv j):=by
  intro j hj o ho
  rcases h2 j hj o ho with⟨obj,ha,hx,hr⟩|⟨ha,v,hx,hc⟩
  ·exact .inl ⟨obj,ha,hx,hr⟩
  ·refine .inr ⟨ha,v,hx,?_⟩
   rcases hc with⟨hw,hc⟩|hc
   ·refine .inl ⟨hw,fun u hu=>?_⟩;obtain⟨lvu,h2u,_⟩:=walk u hu;have hone:=vals_one (P:=P) (ops:=l.toArray) (al:=al) (a:=a) (m:=m) hF.le (u:=u) ⟨⟨u,hu⟩,rfl⟩ ⟨⟨u,U3⟩,rfl⟩ h2 h2u m (Nat.le_refl _);have hju:=h2u j hj o ho;rw[<-qw (ops:=l.toArray) (a:=a) (f:=lv) (g:=lvu) fun k hk=>hone k (by omega),<-hone j hj] at hju
    rcases hju with⟨_,ha',_⟩|⟨_,v',hx',hc'⟩
    ·rw[ha] at ha';cases ha'
    ·rw[hx] at hx';injection hx' with hx'
     subst hx'
     rcases hc' with⟨_,hc'⟩|⟨hw',_⟩
     ·have:=hc' u ⟨⟨u,U3⟩,rfl⟩
      revert this
      generalize (execOp (lay l.toArray a lv j).eval o).run P u=r
      intro this
      cases r with
      |halt x ww=>exact this.elim
      |ok n ww=>
       cases n with
       |value y=>exact this
       |skip=>exact this
       |enter f args=>exact⟨this.1,this.2.mono fun e w'' ⟨he,x,hx⟩=>⟨he,by rw[hx];exact x.fact⟩⟩
       |_=>exact this.elim
     ·rw[hw] at hw';cases hw'
   ·exact .inr hc
 have key:=phase1 (Q:=Q) (a:=a) (w0:=w) (lv:=lv) hF hQ hok (fun bs w' hb h4 h5=>by
  rw[List.toList_toArray]
  exact h3 bs w' hb h4 h5) l.toArray.size (Array.replicate l.toArray.size false) (fun _=>0) {w with drawn:=w.drawn+1} (by simp) (by
   have:=Zx (L:=Array.replicate l.toArray.size false) (m:=0) (fun j hj=>absurd hj (by omega)) (k:=l.toArray.size) (fun j _ hj=>by simp at hj;simp[hj])
   simpa using this) (fun j _ hj=>by simp at hj;simp[hj]) U3.drew ⟨fun j obj hj hl=>by
    have:j<l.length:=by omega
    simp[this] at hl,fun j k hj hk hl=>by
    have:j<l.length:=by omega
    simp[this] at hl⟩
 rw[qw (g:=fun _=>none) (fun j hj=>by
  have:j<l.length:=by omega
  simp[gone,this])] at key
 have hnone:∀k,lay l.toArray a (fun _=>none) k=a:=fun k=>by
  induction k with
  |zero=>rfl
  |succ k ih=>simp only[lay];exact ih
 rw[hnone] at key;exact key
theorem zM{id:Nat}{Q:Exit->Act->World->Prop}{a:Act}{w:World}{l:List Oper}(m:Nat)(h:∀F:World->Prop,Nonempty (Wd F)->(∀w1 w2,F w1->Below w1.heap.size w1 w2->F w2)->(∀w1,F w1->Below w.heap.size w w1)->
 wpF (Oper.quietUpon P fun w'=>∃x:Wd F,w'=x.world) P l.toArray (fun w'=>∃x:Wd F,w'=x.world) (fun _=>none) (fun a'=>∀bs w',Below w.heap.size w w'->(∀j obj,j<m->(fun _=>none:Nat->Option Obj) j=some obj->w.heap.size<=bs j/\w'.heap[bs j]?=some obj)->(∀j k,j<m->k<m->(fun _=>none:Nat->Option Obj) j≠none->(fun _=>none:Nat->Option Obj) k≠none->j≠k->bs j≠bs k)->wpList P l.toArray Q (l.drop m) (over l.toArray (fun _=>none) bs a' m) w') 0 (l.take m) a) (hm:P.follows .mixedOrders=true:=by kernel_rfl) (hB:LM .any l.toArray m (fun _=>none)=true:=by kernel_rfl) (hQ:∀(d:Tmp) v c a w,Q (.panic c) (a.put (some d) v) w->Q (.panic c) a w:=by exact fun _ _ _ _ _ h=>h):(Code.region id l.toArray true).wp P Q a w:=xJ m (fun _=>none) hm hB hQ h
end
structure Lt where
 a:Option Addr
 n:Nat
 c:Nat
 lo:Nat
 hi:Nat
structure Rel where
 val:Lt->Value
 post:Lt->World->Prop
 mono:∀x w w',Below w.heap.size w w'->post x w->post x w'
def JL(R:Nat->Option Rel)(xs:Nat->Lt)(j:Nat)(w:World):Prop:=∀r,R j=some r->r.post (xs j) w
theorem PV{R:Nat->Option Rel}{xs:Nat->Lt}{j:Nat}{w w':World}(hb:Below w.heap.size w w')(h:JL R xs j w):JL R xs j w':=fun r hr=>r.mono _ _ _ hb (h r hr)
def does(P:Program)(w:World)(post:Value->World->Prop):Result Next->Prop
 |.ok (.value v) w'=>Below w.heap.size w w'/\post v w'
 |.ok (.enter f args) w'=>w'=w/\Calls P f args w (fun e w''=>∃v,e=.returned v/\Below w.heap.size w w''/\post v w'')
 |_=>False
inductive Item where
 |seg (n:Nat) (D:List Nat)
 |one (D:List Nat)
section
variable {P:Program}{ops:Array Oper}{md:Region.Mode}
def wpS(P:Program)(ops:Array Oper)(C:World->Prop)(R:Nat->Option Rel)(xs:Nat->Lt)(K:Act->Prop):List Item->Nat->Act->Prop
 |[],_,a=>K a
 |.seg n D::p,i,a=>∀F:World->Prop,Nonempty (Wd F)->(∀w1 w2,F w1->Below w1.heap.size w1 w2->F w2)->(∀w1,F w1->C w1/\∀j∈D,JL R xs j w1)->
   wpQuiet P ops (fun w'=>∃x:Wd F,w'=x.world) (fun a'=>wpS P ops C R xs K p (i+n) a') ((ops.toList.drop i).take n) a
 |.one D::p,i,a=>∃o r,ops[i]?=some o/\R i=some r/\Region.wanted o (yielded ops a.tmps)=true/\
   (∀w,C w->(∀j∈D,JL R xs j w)->does P w (fun v w'=>∃x:Lt,v=r.val x/\x.lo=w.heap.size/\x.hi=w'.heap.size/\r.post x w') ((execOp a.eval o).run P w))/\
   wpS P ops C R xs K p (i+1) (a.put o.dst (r.val (xs i)))
def okS(P:Program)(ops:Array Oper)(C:World->Prop)(R:Nat->Option Rel)(T:List (List Nat))(xs:Nat->Lt)(w9:World)(a:Act)(lv:Nat->Option Value)(j:Nat):Prop:=
 ∃(o:Oper) (D:List Nat),ops[j]?=some o/\(∀d∈D,d∈T.getD j [])/\
  ((∃r,R j=some r/\Region.wanted o (yielded ops (lay ops a lv j).tmps)=true/\lv j=some (r.val (xs j))/\
    ∀w,C w->(∀d∈D,JL R xs d w)->does P w (fun v w'=>∃x:Lt,v=r.val x/\x.lo=w.heap.size/\x.hi=w'.heap.size/\r.post x w') ((execOp (lay ops a lv j).eval o).run P w))∨
   (R j=none/\∃v,lv j=some v/\((Region.wanted o (yielded ops (lay ops a lv j).tmps)=true/\∀w,C w->Below w.heap.size w w9->(∀d∈D,JL R xs d w)->kJ P w v ((execOp (lay ops a lv j).eval o).run P w))∨
      (Region.wanted o (yielded ops (lay ops a lv j).tmps)=false/\v=undef))))
def Ql(m:Nat)(rel:Nat->Bool)(T:List (List Nat)):List Item->Nat->Bool
 |[],i=>i==m
 |.seg n D::p,i=>((List.range n).all fun k=>!rel (i+k)&&D.all fun d=>(T.getD (i+k) []).contains d)&&(D.all fun d=>decide (d<i))&&Ql m rel T p (i+n)
 |.one D::p,i=>rel i&&(D.all fun d=>(T.getD i []).contains d&&decide (d<i))&&Ql m rel T p (i+1)
def uG(md:Region.Mode)(ops:Array Oper)(T:List (List Nat)):Bool:=
 (List.range ops.size).all fun i=>(T.getD i []).all fun d=>match ops[i]? with
  |some o=>o.after.any fun e=>Region.binds md e&&(e.on==d||(T.getD e.on []).contains d)
  |none=>false
theorem vals_from{C1 C2:World->Prop}{yY sO:Nat->Option Value}{a:Act}{i:Nat}{u:World}(hu1:C1 u)(hu2:C2 u)(h0:∀j,j<i->yY j=sO j):
  ∀n,(∀j,i<=j->j<i+n->∀o,ops[j]?=some o->BL (Oper.quietUpon P C1) P ops C1 (fun _=>none) j o (lay ops a yY j) (yY j))->(∀j,i<=j->j<i+n->∀o,ops[j]?=some o->BL (Oper.quietUpon P C2) P ops C2 (fun _=>none) j o (lay ops a sO j) (sO j))->
   i+n<=ops.size->∀j,j<i+n->yY j=sO j:=by
 intro n
 induction n with
 |zero=>intro _ _ _ j hj;exact h0 j hj
 |succ n ih=>
  intro h1 h2 hs j hj;have ih:=ih (fun j a b=>h1 j a (by omega)) (fun j a b=>h2 j a (by omega)) (by omega)
  by_cases hjk:j=i+n
  ·subst hjk;have ho:ops[i+n]?=some ops[i+n]:=by simp
   have a1:=h1 (i+n) (by omega) (by omega) _ ho;have a2:=h2 (i+n) (by omega) (by omega) _ ho;rw[qw (f:=yY) (g:=sO) ih] at a1
   rcases a1 with⟨obj,ha,_⟩|⟨_,v,hx,hc⟩
   ·cases ha
   ·rcases a2 with⟨obj',ha',_⟩|⟨_,v',hx',hc'⟩
    ·cases ha'
    ·rw[hx,hx']
     rcases hc with⟨hw,hc⟩|⟨hw,hc⟩
     ·rcases hc' with⟨hw',hc'⟩|⟨hw',hc'⟩
      ·rw[DF (hc u hu1) (hc' u hu2)]
      ·rw[hw] at hw';cases hw'
     ·rcases hc' with⟨hw',hc'⟩|⟨hw',hc'⟩
      ·rw[hw] at hw';cases hw'
      ·rw[hc,hc']
  ·exact ih j (by omega)
theorem fZ{u:World}{v:Value}{r:Result Next}(h:Oper.quietUpon P (fun w'=>∃x:Wd (fun w1=>Below u.heap.size u w1),w'=x.world) u v r):kJ P u v r:=by
 cases r with
 |halt x ww=>exact h.elim
 |ok n ww=>
  cases n with
  |value y=>exact h
  |skip=>exact h
  |enter f args=>exact⟨h.1,h.2.mono fun e w'' ⟨he,x,hx⟩=>⟨he,by rw[hx];exact x.fact⟩⟩
  |_=>exact h.elim
theorem sD{w0:World}{R:Nat->Option Rel}{T:List (List Nat)}{xs:Nat->Lt}{K:Act->Prop}{m:Nat}{a:Act}(hm:m<=ops.size){w9:World}(h9:Below w0.heap.size w0 w9):
  ∀(p:List Item) (i:Nat) (iD:Nat->Option Value),Ql m (fun j=>(R j).isSome) T p i=true->wpS P ops (fun w=>Below w0.heap.size w0 w) R xs K p i (lay ops a iD i)->
   ∃lv:Nat->Option Value,(∀j,j<i->lv j=iD j)/\(∀j,i<=j->j<m->(∀d,d<j->JL R xs d w9)->okS P ops (fun w=>Below w0.heap.size w0 w) R T xs w9 a lv j)/\((∀d,d<m->JL R xs d w9)->K (lay ops a lv m))
 |[],i,iD,hp,h=>by
  obtain rfl:i=m:=by simpa[Ql] using hp
  exact⟨iD,fun _ _=>rfl,fun j h1 h2=>by omega,fun _=>h⟩
 |.one D::p,i,iD,hp,h=>by
  simp only[Ql,Bool.and_eq_true,List.all_eq_true,decide_eq_true_eq] at hp;obtain⟨⟨hr,hD⟩,hp⟩:=hp;obtain⟨o,r,ho,hri,hw,hdo,hk⟩:=h;have hd:qx ops i=o.dst:=by simp[qx,ho]
  have e:(lay ops a iD i).put o.dst (r.val (xs i))=lay ops a (fun j=>if j=i then some (r.val (xs i)) else iD j) (i+1):=by
   simp only[lay,if_pos,hd];rw[qw (f:=fun j=>if j=i then some (r.val (xs i)) else iD j) (g:=iD) (m:=i) fun j hj=>by simp[Nat.ne_of_lt hj]]
  rw[e] at hk;obtain⟨lv,h1,h2,h3⟩:=sD hm h9 p (i+1) _ hp hk;have hlt:∀j,j<i->lv j=iD j:=fun j hj=>by rw[h1 j (by omega)];simp[Nat.ne_of_lt hj]
  refine⟨lv,hlt,?_,h3⟩;intro j hj1 hj2 hf
  by_cases hji:j=i
  ·subst hji;refine⟨o,D,ho,fun d hd=>by simpa using(hD d hd).1,.inl ⟨r,hri,?_,by rw[h1 j (by omega)];simp,?_⟩⟩
   ·rw[qw (g:=iD) hlt];exact hw
   ·rw[qw (g:=iD) hlt];exact hdo
  ·exact h2 j (by omega) hj2 hf
 |.seg n D::p,i,iD,hp,h=>by
  simp only[Ql,Bool.and_eq_true,List.all_eq_true,decide_eq_true_eq,List.mem_range] at hp;obtain⟨⟨hr,hD⟩,hp⟩:=hp
  by_cases hf:∀d,d<i->JL R xs d w9
  ·have hend:∀p i,Ql m (fun j=>(R j).isSome) T p i=true->i<=m:=by
    intro p
    induction p with
    |nil=>intro i h;have:i=m:=by simpa[Ql] using h
          omega
    |cons x p ih=>
     intro i h
     cases x with
     |seg n D=>simp only[Ql,Bool.and_eq_true] at h;have:=ih _ h.2;omega
     |one D=>simp only[Ql,Bool.and_eq_true] at h;have:=ih _ h.2;omega
   have him:=hend p (i+n) hp;have hlen:((ops.toList.drop i).take n).length=n:=by simp;omega
   have hseg:∀u,Below w0.heap.size w0 u->(∀d∈D,JL R xs d u)->∃lv:Nat->Option Value,(∀j,j<i->lv j=iD j)/\
     (∀j,i<=j->j<i+n->∀o,ops[j]?=some o->BL (Oper.quietUpon P fun w'=>∃x:Wd (fun w1=>Below u.heap.size u w1),w'=x.world) P ops (fun w'=>∃x:Wd (fun w1=>Below u.heap.size u w1),w'=x.world) (fun _=>none) j o (lay ops a lv j) (lv j))/\
     wpS P ops (fun w=>Below w0.heap.size w0 w) R xs K p (i+n) (lay ops a lv (i+n)):=by
    intro u hu hdu;have hq:=h (fun w1=>Below u.heap.size u w1) ⟨⟨u,U3⟩⟩ (fun w1 w2 h1 h2=>jm h1 h2) (fun w1 h1=>⟨jm hu h1,fun d hd=>PV h1 (hdu d hd)⟩)
    have hF:=BQ (P:=P) (ops:=ops) (C:=fun w'=>∃x:Wd (fun w1=>Below u.heap.size u w1),w'=x.world) (al:=fun _=>none) (K:=fun a'=>wpS P ops (fun w=>Below w0.heap.size w0 w) R xs K p (i+n) a') n i ((ops.toList.drop i).take n) (lay ops a iD i) (fun _ _ _=>rfl) (by rw[hlen];exact Nat.le_refl _)
     (by rw[List.take_of_length_le (l:=(ops.toList.drop i).take n) (Nat.le_of_eq hlen),show((ops.toList.drop i).take n).drop n=[] from List.drop_eq_nil_of_le (Nat.le_of_eq hlen)];exact hq)
    obtain⟨lv,h1,h2,h3⟩:=sK (iD:=iD) ((ops.toList.drop i).take n) i (fun j hj=>by
     rw[hlen] at hj;rw[List.getElem?_take,if_pos hj,List.getElem?_drop]
     simp) hF
    rw[hlen] at h2 h3;exact⟨lv,h1,h2,h3⟩
   obtain⟨yY,g1,g2,g3⟩:=hseg w9 h9 (fun d hd=>hf d (hD d hd));obtain⟨lv,h1,h2,h3⟩:=sD hm h9 p (i+n) yY hp g3;refine⟨lv,fun j hj=>(h1 j (by omega)).trans (g1 j hj),?_,h3⟩;intro j hj1 hj2 hfj
   by_cases hjn:j<i+n
   ·have ho:ops[j]?=some ops[j]:=by simp
    have hj:lv j=yY j:=h1 j hjn;have hlay:lay ops a lv j=lay ops a yY j:=qw fun k hk=>h1 k (by omega)
    obtain⟨hrj,hDj⟩:=hr (j-i) (by omega);rw[show i+(j-i)=j by omega] at hrj hDj;have hrn:R j=none:=by simpa using hrj
    refine⟨_,D,ho,fun d hd=>by simpa using hDj d hd,.inr ⟨hrn,?_⟩⟩
    rcases g2 j hj1 hjn _ ho with⟨_,ha,_⟩|⟨_,v,hv,hc⟩
    ·cases ha
    ·refine⟨v,hj.trans hv,?_⟩;rw[hlay]
     rcases hc with⟨hw,hc⟩|hc
     ·refine .inl ⟨hw,fun u hu hu9 hdu=>?_⟩;obtain⟨lvu,k1,k2,_⟩:=hseg u hu hdu;have hone:=vals_from (P:=P) (ops:=ops) (a:=a) (i:=i) (u:=w9) (C1:=fun w'=>∃x:Wd (fun w1=>Below w9.heap.size w9 w1),w'=x.world) (C2:=fun w'=>∃x:Wd (fun w1=>Below u.heap.size u w1),w'=x.world) ⟨⟨w9,U3⟩,rfl⟩ ⟨⟨w9,hu9⟩,rfl⟩ (fun j hj=>(g1 j hj).trans (k1 j hj).symm) n g2 k2 (by omega)
      rcases k2 j hj1 hjn _ ho with⟨_,ha,_⟩|⟨_,v',hv',hc'⟩
      ·cases ha
      ·have hvv:v=v':=by
        have:=hone j hjn;rw[hv,hv'] at this;exact Option.some.inj this
       subst hvv;rw[<-qw (ops:=ops) (a:=a) (f:=yY) (g:=lvu) fun k hk=>hone k (by omega)] at hc'
       rcases hc' with⟨_,hc'⟩|⟨hw',_⟩
       ·exact fZ (hc' u ⟨⟨u,U3⟩,rfl⟩)
       ·rw[hw] at hw';cases hw'
     ·exact .inr hc
   ·exact h2 j (by omega) hj2 hfj
  ·refine⟨iD,fun _ _=>rfl,fun j h1 _ h3=>absurd (fun d hd=>h3 d (by omega)) hf,fun h3=>?_⟩
   have hend:∀p i,Ql m (fun j=>(R j).isSome) T p i=true->i<=m:=by
    intro p
    induction p with
    |nil=>intro i h;have:i=m:=by simpa[Ql] using h
          omega
    |cons x p ih=>
     intro i h
     cases x with
     |seg n D=>simp only[Ql,Bool.and_eq_true] at h;have:=ih _ h.2;omega
     |one D=>simp only[Ql,Bool.and_eq_true] at h;have:=ih _ h.2;omega
   have:=hend p (i+n) hp;exact absurd (fun d hd=>h3 d (by omega)) hf
theorem nJ{T:List (List Nat)}(h:uG md ops T=true){i d:Nat}(hi:i<ops.size)(hd:d∈T.getD i []):∃o,ops[i]?=some o/\∃e∈o.after,Region.binds md e=true/\(e.on=d∨d∈T.getD e.on []):=by
 unfold uG at h;simp only[List.all_eq_true,List.mem_range] at h;have:=h i hi d hd
 cases ho:ops[i]? with
 |none=>simp[ho] at this
 |some o=>
  simp only[ho] at this;rw[Array.any_eq_true'] at this;obtain⟨e,he,hb⟩:=this;simp only[Bool.and_eq_true,Bool.or_eq_true,beq_iff_eq,List.contains_iff_mem] at hb;exact⟨o,rfl,e,he,hb.1,hb.2⟩
theorem dep_lt{T:List (List Nat)}{m:Nat}{al:Nat->Option Obj}(hF:VH md ops m al)(h:uG md ops T=true):∀(i:Nat),i<ops.size->∀d∈T.getD i [],d<i:=by
 intro i
 induction i using Nat.strongRecOn with
 |_ i ih=>
  intro hi d hd;obtain⟨o,ho,e,he,hb,hon⟩:=nJ h hi hd;have hlt:=hF.back i o ho e he hb
  rcases hon with rfl|hon
  ·exact hlt
  ·exact Nat.lt_trans (ih e.on hlt (by omega) d hon) hlt
theorem mZ{T:List (List Nat)}{m:Nat}{al:Nat->Option Obj}(hF:VH md ops m al)(h:uG md ops T=true){L:Array Bool}(hcl:∀j o,ops[j]?=some o->L.getD j true=true->∀e∈o.after,Region.binds md e=true->L.getD e.on true=true):
  ∀(i:Nat) (o:Oper),ops[i]?=some o->(∀e∈o.after,Region.binds md e=true->L.getD e.on true=true)->∀d∈T.getD i [],L.getD d true=true:=by
 intro i
 induction i using Nat.strongRecOn with
 |_ i ih=>
  intro o ho hall d hd;have hi:=(J6.1 ho).1;obtain⟨o',ho',e,he,hb,hon⟩:=nJ h hi hd;rw[ho] at ho'
  cases ho'
  have hl:=hall e he hb
  rcases hon with rfl|hon
  ·exact hl
  ·have hlt:=hF.back i o ho e he hb;have hoe:ops[e.on]?=some ops[e.on]:=by simp
   exact ih e.on hlt _ hoe (hcl _ _ hoe hl) d hon
def LQ(xs:Nat->Lt)(i:Nat)(x:Lt):Nat->Lt:=fun j=>if j=i then x else xs j
theorem completes{w0:World}{R:Nat->Option Rel}{T:List (List Nat)}{K:(Nat->Lt)->Act->Prop}{m:Nat}{a:Act}{plan:List Item}{al:Nat->Option Obj}(hF:VH md ops m al)(hc:uG md ops T=true)
  (hp:Ql m (fun j=>(R j).isSome) T plan 0=true) (hq:∀xs,wpS P ops (fun w=>Below w0.heap.size w0 w) R xs (K xs) plan 0 a) {L:Array Bool} {xs0:Nat->Lt} {w':World} (hB:Below w0.heap.size w0 w') (hf:∀j,j<m->L.getD j true=true->JL R xs0 j w'):
  ∀k,k<=m->∃xs w,(∀j,j<m->L.getD j true=true->xs j=xs0 j)/\Below w'.heap.size w' w/\∀d,d<k->JL R xs d w:=by
 intro k
 induction k with
 |zero=>intro _;exact⟨xs0,w',fun _ _ _=>rfl,U3,fun d hd=>by omega⟩
 |succ k ih=>
  intro hk;obtain⟨xs,w,h1,h2,h3⟩:=ih (by omega)
  by_cases hl:L.getD k true=true
  ·refine⟨xs,w,h1,h2,fun d hd=>?_⟩
   by_cases hdk:d=k
   ·subst hdk;intro r hr;have:=hf d (by omega) hl r hr;rw[h1 d (by omega) hl];exact r.mono _ _ _ h2 this
   ·exact h3 d (by omega)
  ·cases hR:R k with
   |none=>
    refine⟨xs,w,h1,h2,fun d hd=>?_⟩
    by_cases hdk:d=k
    ·subst hdk;intro r hr;rw[hR] at hr
     cases hr
    ·exact h3 d (by omega)
   |some r=>
    have hBw:=jm hB h2;obtain⟨lv,_,hok,_⟩:=sD (P:=P) (a:=a) hF.le hBw plan 0 (fun _=>none) hp (hq xs);obtain⟨o,D,ho,hD,hcase⟩:=hok k (Nat.zero_le _) (by omega) h3;have hks:=(J6.1 ho).1
    rcases hcase with⟨r',hr',_,_,hdo⟩|⟨hn,_⟩
    ·rw[hR] at hr'
     cases hr'
     have hd:=hdo w hBw (fun d hd=>h3 d (dep_lt hF hc k hks d (hD d hd)))
     have fin:∀w1,Below w.heap.size w w1->∀x:Lt,r.post x w1->∃xs w,(∀j,j<m->L.getD j true=true->xs j=xs0 j)/\Below w'.heap.size w' w/\∀d,d<k+1->JL R xs d w:=by
      intro w1 hb x hx;refine⟨LQ xs k x,w1,fun j hj hlj=>?_,jm h2 hb,fun d hd=>?_⟩
      ·have:j≠k:=fun h=>by subst h;exact hl hlj
       simp only[LQ,if_neg this];exact h1 j hj hlj
      ·intro r' hr'
       by_cases hdk:d=k
       ·subst hdk;rw[hR] at hr'
        cases hr'
        simpa[LQ] using hx
       ·have:=r'.mono _ _ _ hb (h3 d (by omega) r' hr')
        simpa[LQ,hdk] using this
     revert hd
     generalize (execOp (lay ops a lv k).eval o).run P w=res
     intro hd
     cases res with
     |halt x ww=>exact hd.elim
     |ok n ww=>
      cases n with
      |value v=>
       obtain⟨hb,x,_,_,_,hx⟩:=hd;exact fin ww hb x hx
      |enter f args=>
       obtain⟨rfl,hcall⟩:=hd;obtain⟨e,w1,fr,⟨v,_,hb,x,_,_,_,hx⟩,_⟩:=hcall [];exact fin w1 hb x hx
      |_=>exact hd.elim
    ·rw[hR] at hn;cases hn
def Apart(R:Nat->Option Rel)(m N M:Nat)(L:Array Bool)(xs:Nat->Lt):Prop:=
 (∀j,j<m->L.getD j true=true->R j≠none->N<=(xs j).lo/\(xs j).lo<=(xs j).hi/\(xs j).hi<=M)/\
 ∀j k,j<m->k<m->L.getD j true=true->L.getD k true=true->R j≠none->R k≠none->j≠k->(xs j).hi<=(xs k).lo∨(xs k).hi<=(xs j).lo
theorem fUpon_one{w:World}{v1 v2:Value}{r:Result Next}(h1:kJ P w v1 r)(h2:kJ P w v2 r):v1=v2:=by
 cases r with
 |halt x ww=>exact h1.elim
 |ok n ww=>
  cases n with
  |value u=>exact h1.2.symm.trans h2.2
  |skip=>exact h1.2.trans h2.2.symm
  |enter f args=>exact kQ h1.2 h2.2
  |_=>exact h1.elim
end
section
variable {P:Program}{ops:Array Oper}{md:Region.Mode}
structure Inv(P:Program)(md:Region.Mode)(ops:Array Oper)(w0:World)(R:Nat->Option Rel)(T:List (List Nat))(m:Nat)(a:Act)(L:Array Bool)(cur:Nat->Option Value)(xs:Nat->Lt)(w':World):Prop where
 size:L.size=ops.size
 late:∀j,m<=j->j<ops.size->L.getD j true=false
 below:Below w0.heap.size w0 w'
 closed:∀j o,ops[j]?=some o->L.getD j true=true->∀e∈o.after,Region.binds md e=true->L.getD e.on true=true
 facts:∀j,j<m->L.getD j true=true->JL R xs j w'
 free:∀j,L.getD j true=false->cur j=none
 apart:Apart R m w0.heap.size w'.heap.size L xs
 vals:∀sU w2 sO,(∀j,j<m->L.getD j true=true->sU j=xs j)->Below w'.heap.size w' w2->(∀d,d<m->JL R sU d w2)->(∀j,j<m->okS P ops (fun w=>Below w0.heap.size w0 w) R T sU w2 a sO j)->∀j,j<m->L.getD j true=true->sO j=cur j
theorem cur_put{cur:Nat->Option Value}{i m:Nat}{a:Act}{v:Value}(hd:∀j k t,qx ops j=some t->qx ops k=some t->j=k)(hf:cur i=none)(hi:i<m):
  (lay ops a cur m).put (qx ops i) v=lay ops a (fun j=>if j=i then some v else cur j) m:=YJ hd hf hi
theorem pure_kind{o:Oper}(hpo:JG o=true)(e:Operand->Value)(w0:World):(∃u,(execOp e o).run P w0=.ok (.value u) w0)∨∃x ww,(execOp e o).run P w0=.halt x ww:=by
 unfold JG at hpo;simp only[Bool.and_eq_true] at hpo;have hpo:=hpo.2;unfold execOp
 split at hpo
 ·rename_i x hx
  simp only[hx];exact .inl ⟨_,rfl⟩
 ·rename_i t i hx
  simp only[hx];unfold Instr.extract
  cases he:e t with
  |tuple vs=>
   cases hi:vs[i]? with
   |none=>right;simp[hi]
   |some u=>left;simp[hi]
  |_=>right;exact⟨_,_,rfl⟩
 ·cases hpo
theorem apart_of{m:Nat}{al:Nat->Option Obj}(hF:VH md ops m al){i j:Nat}{o oj:Oper}{L:Array Bool}(ho:ops[i]?=some o) (hoj:ops[j]?=some oj) (him:i<m) (hji:j≠i) (hno:∀e∈oj.after,Region.binds md e=true->e.on≠i)
  (hall:∀e∈o.after,Region.binds md e=true->L.getD e.on true=true) (huj:L.getD j true=false):o.apart ops oj=true:=by
 have hjn:=(J6.1 hoj).1;have dj:qx ops j=oj.dst:=by simp[qx,hoj]
 have di:qx ops i=o.dst:=by simp[qx,ho]
 have p1:∀d,o.dst=some d->d∉oj.looksAt ops:=by
  intro d hd ht
  rcases Nat.lt_or_ge j m with hjm|hjm
  ·obtain⟨_,_,e,he,hb,hon⟩:=hF.reads j oj hoj hjm i d (di.trans hd) ht;exact hno e he hb hon
  ·rcases(hF.late j oj hoj hjm).2.2 i (by omega) with⟨e,he,hb,hon⟩|⟨_,hl⟩
   ·exact hno e he hb hon
   ·exact hl d (di.trans hd) ht
 have p2:∀d,o.dst=some d->oj.dst≠some d:=fun d hd h=>hji (hF.apart j i d (dj.trans h) (di.trans hd))
 have p3:∀d,oj.dst=some d->d∉o.looksAt ops:=by
  intro d hd ht;obtain⟨_,_,e,he,hb,hon⟩:=hF.reads i o ho him j d (dj.trans hd) ht;have:=hall e he hb;rw[hon,huj] at this
  cases this
 unfold Oper.apart
 cases hdo:o.dst with
 |none=>
  cases hdj:oj.dst with
  |none=>rfl
  |some d=>simpa using p3 d hdj
 |some d=>
  have a1:=p1 d hdo;have a2:=p2 d hdo
  cases hdj:oj.dst with
  |none=>simpa[hdj] using a1
  |some d'=>
   have a3:=p3 d' hdj;rw[hdj] at a2;have a2':d'≠d:=fun h=>a2 (by rw[h])
   simp[a1,a3,a2']
theorem phaseS{w0:World}{R:Nat->Option Rel}{T:List (List Nat)}{Q:Exit->Act->World->Prop}{m:Nat}{a:Act}{plan:List Item}(hF:VH md ops m (fun _=>none))(hc:uG md ops T=true)(hQ:∀(d:Tmp) v c a w,Q (.panic c) (a.put (some d) v) w->Q (.panic c) a w)
  (hp:Ql m (fun j=>(R j).isSome) T plan 0=true) (hRel:∀i o r,ops[i]?=some o->R i=some r->JG o=false)
  (hq:∀xs,wpS P ops (fun w=>Below w0.heap.size w0 w) R xs (fun a'=>∀w',Below w0.heap.size w0 w'->(∀d,d<m->JL R xs d w')->Apart R m w0.heap.size w'.heap.size (Array.replicate m true) xs->wpList P ops Q (ops.toList.drop m) a' w') plan 0 a):
  ∀(fuel:Nat) (L:Array Bool) (cur:Nat->Option Value) (xs:Nat->Lt) (w':World),left L ops.size=fuel->Inv P md ops w0 R T m a L cur xs w'->wpAny P md ops Q fuel L (lay ops a cur m) w':=by
 have hm:=hF.le
 have fin:∀(fuel:Nat) (L:Array Bool) (cur:Nat->Option Value) (xs:Nat->Lt) (w':World),left L ops.size=fuel->Inv P md ops w0 R T m a L cur xs w'->(∀j,j<m->L.getD j true=true)->wpAny P md ops Q fuel L (lay ops a cur m) w':=by
  intro fuel L cur xs w' hf hI hall;have WR:∀d,d<m->JL R xs d w':=fun d hd=>hI.facts d hd (hall d hd)
  obtain⟨lv,_,hok,hK⟩:=sD (P:=P) (a:=a) hm hI.below plan 0 (fun _=>none) hp (hq xs);have hlv:=hI.vals xs w' lv (fun _ _ _=>rfl) U3 WR (fun j hj=>hok j (Nat.zero_le _) hj (fun d hd=>WR d (by omega)));have hK:=hK WR;have hst:lay ops a cur m=lay ops a lv m:=qw fun j hj=>(hlv j hj (hall j hj)).symm
  have hrep:∀j,j<m->(Array.replicate m true).getD j true=true:=fun j hj=>by simp[hj]
  have hap:Apart R m w0.heap.size w'.heap.size (Array.replicate m true) xs:=
   ⟨fun j hj _ hr=>hI.apart.1 j hj (hall j hj) hr,fun j k hj hk _ _ hr hr' hne=>hI.apart.2 j k hj hk (hall j hj) (hall k hk) hr hr' hne⟩
  have hlen:(ops.toList.drop m).length=ops.size-m:=by simp
  have hs:=hI.size
  have hfu:fuel=(ops.toList.drop m).length:=by
   have:=Zx (L:=L) (m:=m) hall (k:=ops.size-m) fun j h1 h2=>hI.late j h1 (by omega)
   rw[show m+(ops.size-m)=ops.size by omega] at this;omega
  rw[hfu,hst];refine vY hF (ops.toList.drop m) m L _ w' ?_ (by omega) (Nat.le_refl _) (fun j hj=>Ja (by omega) (hall j hj)) (fun j h1 h2=>hI.late j h1 h2) ?_
  ·intro j hj
   simp
  ·exact hK w' hI.below WR hap
 intro fuel
 induction fuel with
 |zero=>
  intro L cur xs w' hf hI;refine fin 0 L cur xs w' hf hI fun j hj=>?_
  cases hv:L.getD j true with
  |true=>rfl
  |false=>have:=rV hv (k:=ops.size) (by omega);omega
 |succ fuel ih=>
  intro L cur xs w' hf hI
  by_cases hall:∀j,j<m->L.getD j true=true
  ·exact fin _ L cur xs w' hf hI hall
  ·have hs:=hI.size;obtain⟨sU,w2,hx1,hx2,hx3⟩:=completes (P:=P) hF hc hp hq (L:=L) (xs0:=xs) hI.below hI.facts m (Nat.le_refl _);obtain⟨lv,_,hok,_⟩:=sD (P:=P) (a:=a) hm (jm hI.below hx2) plan 0 (fun _=>none) hp (hq sU);have hok:∀j,j<m->okS P ops (fun w=>Below w0.heap.size w0 w) R T sU w2 a lv j:=fun j hj=>hok j (Nat.zero_le _) hj (fun d hd=>hx3 d (by omega))
   have hlv:=hI.vals sU w2 lv hx1 hx2 hx3 hok
   have same:∀lv:Nat->Option Value,(∀j,j<m->L.getD j true=true->lv j=cur j)->∀i o,ops[i]?=some o->i<m->i∈Region.ready md ops L->
     execOp (lay ops a cur m).eval o=execOp (lay ops a lv i).eval o/\Region.wanted o (yielded ops (lay ops a cur m).tmps)=Region.wanted o (yielded ops (lay ops a lv i).tmps):=by
    intro lv hlv i o ho him hi;obtain⟨hu,o',ho',hall'⟩:=mem_ready.1 hi;rw[ho] at ho'
    cases ho'
    refine bQ (ops:=ops) o (hF.sel i o · · ho) (x:=lay ops a cur m) (y:=lay ops a lv i) (fun t ht=>?_);rw[<-nG (a:=a) (f:=lv) (Nat.le_of_lt him)];refine lM fun j hj=>?_
    by_cases hdt:qx ops j=some t
    ·obtain⟨h1,_,e,he,hb,hon⟩:=hF.reads i o ho him j t hdt ht;have:=qd (hall' e he hb);rw[hon] at this
     left
     simp[hlv j hj this,h1]
    ·exact .inr hdt
   have listed:∀i o,ops[i]?=some o->i∈Region.ready md ops L->∀d∈T.getD i [],d<m/\L.getD d true=true:=by
    intro i o ho hi d hd;obtain⟨hu,o',ho',hall'⟩:=mem_ready.1 hi;rw[ho] at ho'
    cases ho'
    have hl:=mZ hF hc hI.closed i o ho (fun e he hb=>qd (hall' e he hb)) d hd;have hin:=(J6.1 ho).1;have hlt:=dep_lt hF hc i hin d hd;refine⟨?_,hl⟩
    rcases Nat.lt_or_ge d m with h|h
    ·exact h
    ·have:=hI.late d h (by omega);rw[hl] at this
     cases this
   have step:∀i o,ops[i]?=some o->i<m->i∈Region.ready md ops L->∀v (xs':Nat->Lt) w'',Below w'.heap.size w' w''->(∀j,j<m->L.getD j true=true->xs' j=xs j)->JL R xs' i w''->
     (R i≠none->(xs' i).lo=w'.heap.size/\(xs' i).hi=w''.heap.size)->
     (∀sU w2 sO,(∀j,j<m->L.getD j true=true->sU j=xs j)->sU i=xs' i->Below w'.heap.size w' w2->(∀d,d<m->JL R sU d w2)->(∀j,j<m->okS P ops (fun w=>Below w0.heap.size w0 w) R T sU w2 a sO j)->(∀j,j<m->L.getD j true=true->sO j=cur j)->sO i=some v)->
     wpAny P md ops Q fuel (L.setIfInBounds i true) ((lay ops a cur m).put o.dst v) w'':=by
    intro i o ho him hi v xs' w'' hb hag hpost hlohi hval;obtain⟨hu,o',ho',hall'⟩:=mem_ready.1 hi;rw[ho] at ho'
    cases ho'
    have hin:=(J6.1 ho).1;have hd:qx ops i=o.dst:=by simp[qx,ho]
    have hlt:i<L.size:=by omega
    have hset:∀j,j≠i->(L.setIfInBounds i true).getD j true=L.getD j true:=fun j hj=>getD_set_ne true (Ne.symm hj)
    have hsi:(L.setIfInBounds i true).getD i true=true:=NF hlt;rw[<-hd,cur_put hF.apart (hI.free i hu) him];refine ih _ _ xs' w'' ?_ ⟨by simp[hs],?_,jm hI.below hb,?_,?_,?_,?_,?_⟩
    ·have:=ND hu (k:=ops.size) hin;omega
    ·intro j h1 h2;rw[hset j (by omega)];exact hI.late j h1 h2
    ·intro j oj hoj hl e he hbe
     by_cases hji:j=i
     ·subst hji;rw[ho] at hoj
      cases hoj
      have h1:=qd (hall' e he hbe)
      by_cases hei:e.on=j
      ·rw[hei];exact hsi
      ·rw[hset _ hei];exact h1
     ·rw[hset j hji] at hl;have h1:=hI.closed j oj hoj hl e he hbe
      by_cases hei:e.on=i
      ·rw[hei];exact hsi
      ·rw[hset _ hei];exact h1
    ·intro j hj hl
     by_cases hji:j=i
     ·subst hji;exact hpost
     ·rw[hset j hji] at hl;intro r hr;have:=r.mono _ _ _ hb (hI.facts j hj hl r hr);rw[hag j hj hl];exact this
    ·intro j hl;have hji:j≠i:=fun h=>by rw[h,hsi] at hl;cases hl
     rw[hset j hji] at hl;simp only[if_neg hji];exact hI.free j hl
    ·have hsz:=hb.size
     constructor
     ·intro j hj hl hr
      by_cases hji:j=i
      ·subst hji;have:=hlohi hr;have:=hI.below.size;omega
      ·rw[hset j hji] at hl;rw[hag j hj hl];have:=hI.apart.1 j hj hl hr;omega
     ·intro j k hj hk hlj hlk hrj hrk hne
      by_cases hji:j=i
      ·subst hji;have hkj:k≠j:=Ne.symm hne;rw[hset k hkj] at hlk;rw[hag k hk hlk];have h1:=hlohi hrj;have h2:=hI.apart.1 k hk hlk hrk;omega
      ·rw[hset j hji] at hlj;rw[hag j hj hlj]
       by_cases hki:k=i
       ·subst hki;have h1:=hlohi hrk;have h2:=hI.apart.1 j hj hlj hrj;omega
       ·rw[hset k hki] at hlk;rw[hag k hk hlk];exact hI.apart.2 j k hj hk hlj hlk hrj hrk hne
    ·intro sU w2 sO h1 h2 h3 h4 j hj hl
     have g1:∀j,j<m->L.getD j true=true->sU j=xs j:=fun j hj hl=>by
      have hji:j≠i:=fun h=>by rw[h,hu] at hl;cases hl
      exact(h1 j hj (by rw[hset j hji];exact hl)).trans (hag j hj hl)
     have g2:=hI.vals sU w2 sO g1 (jm hb h2) h3 h4
     by_cases hji:j=i
     ·subst hji;simp only[if_true];exact hval sU w2 sO g1 (h1 j hj hsi) (jm hb h2) h3 h4 g2
     ·rw[hset j hji] at hl;simp only[if_neg hji];exact g2 j hj hl
   have float:∀i o,ops[i]?=some o->i<m->i∈Region.ready md ops L->R i=none->∃v,((Region.wanted o (yielded ops (lay ops a cur m).tmps)=true/\kJ P w' v ((execOp (lay ops a cur m).eval o).run P w'))∨(Region.wanted o (yielded ops (lay ops a cur m).tmps)=false/\v=undef))/\
     ∀w'',Below w'.heap.size w' w''->wpAny P md ops Q fuel (L.setIfInBounds i true) ((lay ops a cur m).put o.dst v) w'':=by
    intro i o ho him hi hRi;have hli:=listed i o ho hi;obtain⟨o',D,ho',hD,hcase⟩:=hok i him;rw[ho] at ho'
    cases ho'
    have hsame:=same lv hlv i o ho him hi
    rcases hcase with⟨r,hr,_⟩|⟨_,v,hv,hcc⟩
    ·rw[hRi] at hr;cases hr
    ·have hv1:(Region.wanted o (yielded ops (lay ops a cur m).tmps)=true/\kJ P w' v ((execOp (lay ops a cur m).eval o).run P w'))∨(Region.wanted o (yielded ops (lay ops a cur m).tmps)=false/\v=undef):=by
      rw[hsame.1,hsame.2]
      rcases hcc with⟨hw,hcc⟩|hcc
      ·exact .inl ⟨hw,hcc w' hI.below hx2 (fun d hd r hr=>by
        have hdl:=hli d (hD d hd);rw[hx1 d hdl.1 hdl.2]
        exact hI.facts d hdl.1 hdl.2 r hr)⟩
      ·exact .inr hcc
     refine⟨v,hv1,fun w'' hb=>step i o ho him hi v xs w'' hb (fun _ _ _=>rfl) (fun r hr=>by rw[hRi] at hr;cases hr) (fun h=>absurd hRi h) ?_⟩;intro xs3 w3 lv3 h1 _ h2 h3 h4 h5;obtain⟨o',D',ho',hD',aZ⟩:=h4 i him;rw[ho] at ho'
     cases ho'
     have hsame':=same lv3 h5 i o ho him hi
     rcases aZ with⟨r,hr,_⟩|⟨_,v',hv',hcc'⟩
     ·rw[hRi] at hr;cases hr
     ·rw[hv'];rw[<-hsame'.1,<-hsame'.2] at hcc'
      rcases hcc' with⟨hw',hcc'⟩|⟨hw',hcc'⟩
      ·rcases hv1 with⟨_,hv1⟩|⟨hw,_⟩
       ·have:=hcc' w' hI.below h2 (fun d hd r hr=>by
         have hdl:=hli d (hD' d hd);rw[h1 d hdl.1 hdl.2]
         exact hI.facts d hdl.1 hdl.2 r hr)
        rw[fUpon_one this hv1]
       ·rw[hw] at hw';cases hw'
      ·rcases hv1 with⟨hw,_⟩|⟨_,hv1⟩
       ·rw[hw] at hw';cases hw'
       ·rw[hcc',hv1]
   by_cases hpu:∃i o,i<m/\i∈Region.ready md ops L/\ops[i]?=some o/\JG o=true/\R i=none
   ·obtain⟨i,o,him,hi,ho,hpo,hRi⟩:=hpu;obtain⟨hu,o',ho',hall'⟩:=mem_ready.1 hi;rw[ho] at ho'
    cases ho'
    obtain⟨v,hv,hnext⟩:=float i o ho him hi hRi;have hg:o.guard=none:=by unfold JG at hpo;simp at hpo;exact hpo.1
    rcases hv with⟨hw,hup⟩|⟨hw,_⟩
    ·have hval:(execOp (lay ops a cur m).eval o).run P w'=.ok (.value v) w':=by
      revert hup
      rcases pure_kind (P:=P) hpo (lay ops a cur m).eval w' with⟨u,hu⟩|⟨x,ww,hu⟩
      ·rw[hu];rintro⟨_,rfl⟩;rfl
      ·rw[hu];intro h;exact h.elim
     refine wpAny_first (v:=v) ho hF.sel (fun c a1 w1 h=>?_) fuel L _ w' ?_ hi (.inl ⟨hw,fun w=>pure_run hpo hval⟩) (hnext w' U3)
     ·cases hdo:o.dst with
      |none=>rw[hdo] at h;exact h
      |some d=>rw[hdo] at h;exact hQ d v c a1 w1 h
     ·intro j oj hoj hji huj hno;exact apart_of hF ho hoj him hji hno (fun e he hb=>qd (hall' e he hb)) huj
    ·simp[Region.wanted,hg] at hw
   obtain⟨i0,hi0,hu0,hb0⟩:=QT hall
   have DC:i0∈Region.ready md ops L:=mem_ready.2 ⟨hu0,ops[i0],by simp,fun e he hb=>by
    have:=hF.back i0 ops[i0] (by simp) e he hb
    exact Ja (by omega) (hb0 _ this)⟩
   refine⟨fun h'=>(by rw[h'] at DC;cases DC),fun i hi=>?_⟩;obtain⟨hu,o,ho,hall'⟩:=mem_ready.1 hi;have hin:=(J6.1 ho).1
   have him:i<m:=by
    rcases Nat.lt_or_ge i m with h'|h'
    ·exact h'
    ·rcases(hF.late i o ho h').2.2 i0 (by omega) with⟨e,he,hb,hon⟩|⟨⟨oj,hoj,hpj⟩,_⟩
     ·have:=qd (hall' e he hb);rw[hon,hu0] at this
      cases this
     ·have hRn:R i0=none:=by
       cases hR:R i0 with
       |none=>rfl
       |some r=>
        rw[hRel i0 oj r hoj hR] at hpj
        cases hpj
      exact absurd ⟨i0,oj,hi0,DC,hoj,hpj,hRn⟩ hpu
   unfold wpOp;simp only[ho]
   cases hRi:R i with
   |none=>
    obtain⟨v,hv,hnext⟩:=float i o ho him hi hRi
    rcases hv with⟨hw,hup⟩|⟨hw,rfl⟩
    ·simp only[hw,if_true]
     left
     unfold Oper.wp
     revert hup
     cases(execOp (lay ops a cur m).eval o).run P w' with
     |halt x ww=>intro h;exact h.elim
     |ok n ww=>
      cases n with
      |value u=>
       rintro⟨rfl,rfl⟩;exact hnext _ U3
      |skip=>
       rintro⟨rfl,rfl⟩;exact hnext _ U3
      |enter f args=>
       rintro⟨rfl,h⟩;refine Calls.mono h ?_;rintro e w'' ⟨rfl,hb⟩;exact hnext _ hb
      |_=>intro h;exact h.elim
    ·simp only[hw];exact hnext _ U3
   |some r=>
    have hli:=listed i o ho hi;obtain⟨o',D,ho',hD,hcase⟩:=hok i him;rw[ho] at ho'
    cases ho'
    have hsame:=same lv hlv i o ho him hi
    rcases hcase with⟨r',hr',hw,_,hdo⟩|⟨hn,_⟩
    ·rw[hRi] at hr'
     cases hr'
     rw[<-hsame.2] at hw;simp only[hw,if_true]
     left
     have hdd:=hdo w' hI.below (fun d hd r hr=>by
      have hdl:=hli d (hD d hd);rw[hx1 d hdl.1 hdl.2]
      exact hI.facts d hdl.1 hdl.2 r hr)
     rw[<-hsame.1] at hdd
     have go:∀(v:Value) w'' (x:Lt),Below w'.heap.size w' w''->v=r.val x->x.lo=w'.heap.size->x.hi=w''.heap.size->r.post x w''->wpAny P md ops Q fuel (L.setIfInBounds i true) ((lay ops a cur m).put o.dst v) w'':=by
      intro v w'' x hb hvx hlo hhi hpx;refine step i o ho him hi v (LQ xs i x) w'' hb (fun j hj hl=>?_) (fun r' hr'=>?_) (fun _=>by simp[LQ,hlo,hhi]) ?_
      ·have hji:j≠i:=fun h=>by subst h;rw[hl] at hu;cases hu
       simp[LQ,hji]
      ·rw[hRi] at hr'
       cases hr'
       simpa[LQ] using hpx
      ·intro xs3 w3 lv3 _ hxi _ _ h4 _;obtain⟨o',D',ho',hD',aZ⟩:=h4 i him
       rcases aZ with⟨r',hr',_,hlvi,_⟩|⟨hn,_⟩
       ·rw[hRi] at hr'
        cases hr'
        rw[hlvi,hxi,hvx]
        simp[LQ]
       ·rw[hRi] at hn;cases hn
     unfold Oper.wp
     revert hdd
     cases(execOp (lay ops a cur m).eval o).run P w' with
     |halt x ww=>intro h;exact h.elim
     |ok n ww=>
      cases n with
      |value u=>
       rintro⟨hb,x,hvx,hlo,hhi,hpx⟩;exact go u ww x hb hvx hlo hhi hpx
      |enter f args=>
       rintro⟨rfl,h⟩;refine Calls.mono h ?_;rintro e w'' ⟨v,rfl,hb,x,hvx,hlo,hhi,hpx⟩;exact go v w'' x hb hvx hlo hhi hpx
      |_=>intro h;exact h.elim
    ·rw[hRi] at hn;cases hn
def seqB(md:Region.Mode)(ops:Array Oper)(m:Nat)(rel:Nat->Bool)(T:List (List Nat))(plan:List Item):Bool:=
 LM md ops m (fun _=>none)&&uG md ops T&&Ql m rel T plan 0&&(List.range ops.size).all fun i=>!rel i||match ops[i]? with
  |some o=>!JG o
  |none=>true
theorem rF{id:Nat}{Q:Exit->Act->World->Prop}{a:Act}{w:World}{l:List Oper}(m:Nat)(rel:Nat->Bool)(R:Nat->Option Rel)(T:List (List Nat))(plan:List Item)(hm:P.follows .mixedOrders=true)(hB:seqB .any l.toArray m rel T plan=true)(hrel:∀j,(R j).isSome=rel j)
  (hQ:∀(d:Tmp) v c a w,Q (.panic c) (a.put (some d) v) w->Q (.panic c) a w)
  (h:∀xs:Nat->Lt,wpS P l.toArray (fun w'=>Below w.heap.size w w') R xs (fun a'=>∀w',Below w.heap.size w w'->(∀d,d<m->JL R xs d w')->Apart R m w.heap.size w'.heap.size (Array.replicate m true) xs->wpList P l.toArray Q (l.drop m) a' w') plan 0 a):
  (Code.region id l.toArray true).wp P Q a w:=by
 have hrf:rel=fun j=>(R j).isSome:=funext fun j=>(hrel j).symm
 subst hrf;simp only[seqB,Bool.and_eq_true,List.all_eq_true,List.mem_range] at hB;obtain⟨⟨⟨h1,h2⟩,h3⟩,h4⟩:=hB;have hF:=iJ h1;refine wp_region_any hm ?_
 have key:=phaseS (Q:=Q) (a:=a) (w0:=w) hF h2 hQ h3 (fun i o r ho hr=>by
  have:=h4 i (J6.1 ho).1
  simpa[ho,hr] using this) (fun xs=>by rw[List.toList_toArray];exact h xs) l.toArray.size (Array.replicate l.toArray.size false) (fun _=>none) (fun _=>⟨none,0,0,0,0⟩) {w with drawn:=w.drawn+1} (by
   have:=Zx (L:=Array.replicate l.toArray.size false) (m:=0) (fun j hj=>absurd hj (by omega)) (k:=l.toArray.size) (fun j _ hj=>by simp at hj;simp[hj])
   simpa using this) ?_
 ·have hnone:∀k,lay l.toArray a (fun _=>none) k=a:=fun k=>by
   induction k with
   |zero=>rfl
   |succ k ih=>simp only[lay];exact ih
  rw[hnone] at key;exact key
 ·have hle:m<=l.length:=by simpa using hF.le
  have hno:∀j,j<l.length->(Array.replicate l.toArray.size false).getD j true=true->False:=fun j hj h=>by simp[hj] at h
  refine⟨by simp,fun j _ hj=>by simp at hj;simp[hj],U3.drew,?_,fun j hj hl=>(hno j (by omega) hl).elim,fun _ _=>rfl,⟨fun j hj hl=>(hno j (by omega) hl).elim,fun j k hj _ hl=>(hno j (by omega) hl).elim⟩,fun sU w2 sO _ _ _ _ j hj hl=>(hno j (by omega) hl).elim⟩;intro j o ho hl;exact(hno j (by simpa using(J6.1 ho).1) hl).elim
end
end Go.Proofs.YtpkalgofejjggaaGreatDoor
