/- A region that draws its order, walked as a tree -/
import Derived.Deep.RegionHeld3
import Derived.Test.YtpkalgofejjggaaGreatDoorBPBG01
namespace Go.Proofs.YtpkalgofejjggaaGreatDoor
section
variable {P:Program}{Q:Exit->Act->World->Prop}{S:World->Prop}
def marks(n i:Nat):Array Bool:=((List.range n).map fun j=>decide (j<i)).toArray
theorem xY(n:Nat):marks n 0=Array.replicate n false:=by
 apply Array.ext'
 have h:∀l:List Nat,l.map (fun j=>decide (j<0))=List.replicate l.length false:=fun l=>by
  induction l with
  |nil=>rfl
  |cons a l ih=>rw[List.map_cons,ih,List.length_cons,List.replicate_succ];simp
 simp only[marks,h,List.length_range,Array.toList_replicate]
theorem OL(n i:Nat):(marks n i).setIfInBounds i true=marks n (i+1):=by
 apply Array.ext'
 simp only[marks,List.setIfInBounds_toArray];refine List.ext_getElem? fun j=>?_
 rw[List.getElem?_set];simp only[List.length_map,List.length_range,List.getElem?_map]
 by_cases hij:i=j
 ·subst hij;rw[if_pos rfl]
  by_cases hi:i<n
  ·simp[hi]
  ·simp[hi]
 ·rw[if_neg hij]
  by_cases hj:j<n
  ·simp only[List.getElem?_range hj,Option.map_some]
   congr 1
   rw[decide_eq_decide];omega
  ·rw[List.getElem?_eq_none (by simpa using hj)]
   rfl
def lineAt(l:List Oper)(i:Nat)(k:Bool):Bool:=
 if k then Region.free .any l.toArray (marks l.length i) i&&(Region.ready .any l.toArray (marks l.length i)).contains i
 else Region.ready .any l.toArray (marks l.length i)==[i]
def lineB(l:List Oper)(ks:List Bool):Bool:=
 Region.noSelect l.toArray&&ks.length==l.length&&(List.range l.length).all (fun i=>lineAt l i (ks.getD i false))&&(Region.ready .any l.toArray (marks l.length l.length)).isEmpty
def WL(P:Program)(l:List Oper)(Q:Exit->Act->World->Prop)(S:World->Prop):List Oper->List Bool->Act->World->Prop
 |[],_,a,w=>Q .normal a w
 |o::rest,true::ks,a,w=>∃v,YieldsIf P l.toArray S o v a/\WL P l Q S rest ks (a.put o.dst v) w
 |o::rest,ks,a,w=>∀K:Act->World->Prop,Shut (∀a w,S w->(S w->WL P l Q S rest ks.tail a w)->K a w)->if Region.wanted o (yielded l.toArray a.tmps)=true then Oper.wp P o a w K Q else K (a.put o.dst undef) w
theorem wl_sound{l:List Oper}{ks0:List Bool}(hB:lineB l ks0=true)(hQ:∀(d:Tmp) v c a w,Q (.panic c) (a.put (some d) v) w->Q (.panic c) a w):
  ∀(rest:List Oper) (ks:List Bool) (i:Nat) (a:Act) (w:World),l.drop i=rest->ks0.drop i=ks->i<=l.length->S w->WL P l Q S rest ks a w->wpAnyH P .any l.toArray Q S rest.length (marks l.length i) a w:=by
 simp only[lineB,Bool.and_eq_true,beq_iff_eq,List.all_eq_true,List.mem_range,List.isEmpty_iff] at hB;obtain⟨⟨⟨h1,h2⟩,h3⟩,h4⟩:=hB;intro rest
 induction rest with
 |nil=>
  intro ks i a w hd hk hi _ h
  have hil:i=l.length:=by
   have:=congrArg List.length hd;rw[List.length_drop] at this
   simp at this
   omega
  subst hil;have hq:Q .normal a w:=by cases ks<;>exact h
  exact wpAnyH_done h4 hq _
 |cons o rest ih=>
  intro ks i a w hd hk hi hS h
  have hil:i<l.length:=by
   have:=congrArg List.length hd;rw[List.length_drop,List.length_cons] at this;omega
  have hg:l[i]?=some o:=by
   have:=List.getElem?_drop (xs:=l) (i:=i) (j:=0);rw[hd] at this
   simpa using this.symm
  have hga:l.toArray[i]?=some o:=by simpa using hg
  have hdn:l.drop (i+1)=rest:=by rw[<-List.tail_drop,hd];rfl
  have hkd:ks0.drop (i+1)=ks.tail:=by rw[<-List.tail_drop,hk]
  have hat:=h3 i hil
  cases ks with
  |nil=>
   have:=congrArg List.length hk;rw[List.length_drop] at this
   simp at this
   omega
  |cons k ks=>
   have hkg:ks0.getD i false=k:=by
    have:=List.getElem?_drop (xs:=ks0) (i:=i) (j:=0);rw[hk] at this;rw[List.getD_eq_getElem?_getD];rw[show ks0[i]?=some k by simpa using this.symm]
    rfl
   rw[hkg] at hat;unfold lineAt at hat
   cases k with
   |true=>
    simp only[if_true,Bool.and_eq_true] at hat;obtain⟨v,hy,hw⟩:=h
    exact wpAnyH_take hga h1 hat.1 hat.2 (fun c a w hp=>by
     cases hd:o.dst with
     |none=>rw[hd] at hp;exact hp
     |some d=>rw[hd] at hp;exact hQ d _ c a w hp) hy hS (by rw[OL];exact ih ks (i+1) _ w hdn hkd (by omega) hS hw)
   |false=>
    simp only[Bool.false_eq_true,if_false,beq_iff_eq] at hat;refine wpAnyH_ready (rs:=[i]) hat (by simp) (AllReadyH.cons hga (fun K hK=>?_) AllReadyH.nil);exact h K fun a w hs hwl=>hK a w hs fun hs'=>by rw[OL];exact ih ks (i+1) a w hdn hkd (by omega) hs' (hwl hs')
end
end Go.Proofs.YtpkalgofejjggaaGreatDoor
namespace Go.Proofs.YtpkalgofejjggaaGreatDoor
theorem zp{c:Bool}{A B:Prop}(h:c=false)(hb:B):if c=true then A else B:=by
 subst h;exact hb
section
variable {P:Program}{Q:Exit->Act->World->Prop}{S:World->Prop}
def JH(n:Nat)(d:List Nat):Array Bool:=((List.range n).map fun j=>d.contains j).toArray
theorem PL(n:Nat):JH n []=Array.replicate n false:=by
 rw[<-xY];unfold JH marks
 congr 1
theorem JU(n i:Nat)(d:List Nat):(JH n d).setIfInBounds i true=JH n (i::d):=by
 apply Array.ext'
 simp only[JH,List.setIfInBounds_toArray];refine List.ext_getElem? fun j=>?_
 rw[List.getElem?_set];simp only[List.length_map,List.length_range,List.getElem?_map,List.contains_cons]
 by_cases hij:i=j
 ·subst hij;rw[if_pos rfl]
  by_cases hi:i<n
  ·simp[hi]
  ·simp[hi]
 ·rw[if_neg hij];have hb:(j==i)=false:=by simpa using fun e=>hij e.symm
  by_cases hj:j<n
  ·rw[List.getElem?_range hj,Option.map_some,Option.map_some,hb,Bool.false_or]
  ·rw[List.getElem?_eq_none (by simpa using hj)]
   rfl
def YU(l:List Oper):List Nat->List (Nat×Bool)->Bool
 |d,[]=>(Region.ready .any l.toArray (JH l.length d)).isEmpty
 |d,(i,k)::rest=>decide (i<l.length)&&(if k then Region.free .any l.toArray (JH l.length d) i&&(Region.ready .any l.toArray (JH l.length d)).contains i else Region.ready .any l.toArray (JH l.length d)==[i])&&YU l (i::d) rest
def WP(P:Program)(l:List Oper)(Q:Exit->Act->World->Prop)(S:World->Prop):List (Nat×Bool)->Act->World->Prop
 |[],a,w=>Q .normal a w
 |(i,true)::rest,a,w=>∀o,l[i]?=some o->∃v,YieldsIf P l.toArray S o v a/\WP P l Q S rest (a.put o.dst v) w
 |(i,false)::rest,a,w=>∀o,l[i]?=some o->∀K:Act->World->Prop,Shut (∀a w,S w->(S w->WP P l Q S rest a w)->K a w)->if Region.wanted o (yielded l.toArray a.tmps)=true then Oper.wp P o a w K Q else K (a.put o.dst undef) w
theorem WP.take{l:List Oper}{i:Nat}{o:Oper}{rest:List (Nat×Bool)}{a:Act}{w:World}{v:Value}(ho:l[i]?=some o) (h:YieldsIf P l.toArray S o v a) (k:WP P l Q S rest (a.put o.dst v) w):WP P l Q S ((i,true)::rest) a w:=fun o' ho'=>by
 obtain rfl:o=o':=by rw[ho] at ho';exact Option.some.inj ho'
 exact⟨v,h,k⟩
theorem WP.step{l:List Oper}{i:Nat}{o:Oper}{rest:List (Nat×Bool)}{a:Act}{w:World}(ho:l[i]?=some o) (h:∀K:Act->World->Prop,Shut (∀a w,S w->(S w->WP P l Q S rest a w)->K a w)->if Region.wanted o (yielded l.toArray a.tmps)=true then Oper.wp P o a w K Q else K (a.put o.dst undef) w):WP P l Q S ((i,false)::rest) a w:=fun o' ho'=>by
 obtain rfl:o=o':=by rw[ho] at ho';exact Option.some.inj ho'
 exact h
theorem WP.done{l:List Oper}{a:Act}{w:World}(h:Q .normal a w):WP P l Q S [] a w:=h
theorem qD{S:World->Prop}{X K:Act->World->Prop}{b a':Act}{w:World}(hK:Shut (∀a w,S w->(S w->X a w)->K a w))(hs:S w)(k:S w->X a' w)(he:b=a':=by(first|(simp only[Act.put,pa,pb,pc,jP,jA,jB,jC,jD,jE,jG];rfl)|(simp only[Act.put,pa,pb,pc,jP,jA,jB,jC];rfl)|rfl)):K b w:=by rw[he];exact hK.out _ _ hs k
theorem jq{l:List Oper}{i:Nat}{o:Oper}{rest:List (Nat×Bool)}{a a':Act}{w:World}{v:Value}(k:WP P l Q S rest a' w)(ho:l[i]?=some o:=by exact rfl) (h:∀w8,S w8->(execOp a.eval o).run P w8=.ok (.value v) w8:=by(intro w8 hSw;(try dsimp only at hSw);go_simp;any_goals with_reducible rfl)) (hw:Region.wanted o (yielded l.toArray a.tmps)=true:=by rfl) (he:a.put o.dst v=a':=by(first|(simp only[Act.put,pa,pb,pc,jP,jA,jB,jC,jD,jE,jG];rfl)|(simp only[Act.put,pa,pb,pc,jP,jA,jB,jC];rfl)|rfl)):WP P l Q S ((i,true)::rest) a w:=
 WP.take ho (Or.inl ⟨hw,h⟩) (he▸k)
theorem jx{l:List Oper}{i:Nat}{o:Oper}{rest:List (Nat×Bool)}{a a':Act}{w:World}(v:Value)(ho:l[i]?=some o) (h:∀w8,S w8->(execOp a.eval o).run P w8=.ok (.value v) w8) (k:WP P l Q S rest a' w) (hw:Region.wanted o (yielded l.toArray a.tmps)=true:=by rfl) (he:a.put o.dst v=a':=by(first|(simp only[Act.put,pa,pb,pc,jP,jA,jB,jC,jD,jE,jG];rfl)|(simp only[Act.put,pa,pb,pc,jP,jA,jB,jC];rfl)|rfl)):WP P l Q S ((i,true)::rest) a w:=
 WP.take ho (Or.inl ⟨hw,h⟩) (he▸k)
theorem jR{l:List Oper}{i:Nat}{o:Oper}{rest:List (Nat×Bool)}{a a':Act}{w:World}(k:WP P l Q S rest a' w)(ho:l[i]?=some o:=by exact rfl) (hw:Region.wanted o (yielded l.toArray a.tmps)=false:=by rfl) (he:a.put o.dst undef=a':=by(first|(simp only[Act.put,pa,pb,pc,jP,jA,jB,jC,jD,jE,jG];rfl)|(simp only[Act.put,pa,pb,pc,jP,jA,jB,jC];rfl)|rfl)):WP P l Q S ((i,true)::rest) a w:=
 WP.take ho (Or.inr ⟨hw,rfl⟩) (he▸k)
theorem vU{l:List Oper}(h1:Region.noSelect l.toArray=true)(hQ:∀(d:Tmp) v c a w,Q (.panic c) (a.put (some d) v) w->Q (.panic c) a w):
  ∀(rest:List (Nat×Bool)) (d:List Nat) (a:Act) (w:World),YU l d rest=true->S w->WP P l Q S rest a w->wpAnyH P .any l.toArray Q S rest.length (JH l.length d) a w:=by
 intro rest
 induction rest with
 |nil=>
  intro d a w hp _ h;simp only[YU,List.isEmpty_iff] at hp;exact wpAnyH_done hp h _
 |cons x rest ih=>
  obtain⟨i,k⟩:=x;intro d a w hp hS h;simp only[YU,Bool.and_eq_true,decide_eq_true_eq] at hp;obtain⟨⟨hi,hat⟩,hnx⟩:=hp;obtain⟨o,hg⟩:∃o,l[i]?=some o:=⟨_,List.getElem?_eq_getElem hi⟩;have hga:l.toArray[i]?=some o:=by simpa using hg
  cases k with
  |true=>
   simp only[if_true,Bool.and_eq_true] at hat;obtain⟨v,hy,hw⟩:=h o hg
   exact wpAnyH_take hga h1 hat.1 hat.2 (fun c a w hp=>by
    cases hd:o.dst with
    |none=>rw[hd] at hp;exact hp
    |some d=>rw[hd] at hp;exact hQ d _ c a w hp) hy hS (by rw[JU];exact ih (i::d) _ w hnx hS hw)
  |false=>
   simp only[Bool.false_eq_true,if_false,beq_iff_eq] at hat;refine wpAnyH_ready (rs:=[i]) hat (by simp) (AllReadyH.cons hga (fun K hK=>?_) AllReadyH.nil);exact h o hg K fun a w hs hwl=>hK a w hs fun hs'=>by rw[JU];exact ih (i::d) a w hnx hs' (hwl hs')
theorem jK{id:Nat}{l:List Oper}{a:Act}{w:World}(ks:List (Nat×Bool))(S:World->Prop)(hm:P.follows .mixedOrders=true)(hB:(Region.noSelect l.toArray&&ks.length==l.length&&YU l [] ks)=true)(hQ:∀(d:Tmp) v c a w,Q (.panic c) (a.put (some d) v) w->Q (.panic c) a w)
  (hS:S w.drew) (h:S w.drew->WP P l Q S ks a w.drew):(Code.region id l.toArray true).wp P Q a w:=by
 simp only[Bool.and_eq_true,beq_iff_eq] at hB;obtain⟨⟨h1,h2⟩,h3⟩:=hB;refine wp_region_held_drew (S:=S) hm hS fun hs=>?_
 have:=vU (P:=P) (Q:=Q) (S:=S) h1 hQ ks [] a w.drew h3 hs (h hs);rw[PL,h2] at this;exact this
end
end Go.Proofs.YtpkalgofejjggaaGreatDoor
namespace Go.Proofs.YtpkalgofejjggaaGreatDoor
section
variable {P:Program}{Q:Exit->Act->World->Prop}{S:World->Prop}
inductive PT where
 |done
 |take (i:Nat) (t:PT)
 |step (i:Nat) (t:PT)
 |fork (i:Nat) (t:PT) (j:Nat) (u:PT)
def PT.len:PT->Nat
 |.done=>0
 |.take _ t=>t.len+1
 |.step _ t=>t.len+1
 |.fork _ t _ _=>t.len+1
def vF(l:List Oper):List Nat->PT->Bool
 |d,.done=>(Region.ready .any l.toArray (JH l.length d)).isEmpty
 |d,.take i t=>decide (i<l.length)&&(Region.free .any l.toArray (JH l.length d) i&&(Region.ready .any l.toArray (JH l.length d)).contains i)&&vF l (i::d) t
 |d,.step i t=>decide (i<l.length)&&Region.ready .any l.toArray (JH l.length d)==[i]&&vF l (i::d) t
 |d,.fork i t j u=>decide (i<l.length)&&decide (j<l.length)&&Region.ready .any l.toArray (JH l.length d)==[i,j]&&t.len==u.len&&vF l (i::d) t&&vF l (j::d) u
def upS(P:Program)(l:List Oper)(Q:Exit->Act->World->Prop)(S:World->Prop)(R:Act->World->Prop)(o:Oper)(a:Act)(w:World):Prop:=
 ∀K:Act->World->Prop,Shut (∀a w,S w->(S w->R a w)->K a w)->if Region.wanted o (yielded l.toArray a.tmps)=true then Oper.wp P o a w K Q else K (a.put o.dst undef) w
def WT(P:Program)(l:List Oper)(Q:Exit->Act->World->Prop)(S:World->Prop):PT->Act->World->Prop
 |.done,a,w=>Q .normal a w
 |.take i t,a,w=>∀o,l[i]?=some o->∃v,YieldsIf P l.toArray S o v a/\WT P l Q S t (a.put o.dst v) w
 |.step i t,a,w=>∀o,l[i]?=some o->upS P l Q S (WT P l Q S t) o a w
 |.fork i t j u,a,w=>(∀o,l[i]?=some o->upS P l Q S (WT P l Q S t) o a w)/\∀o,l[j]?=some o->upS P l Q S (WT P l Q S u) o a w
theorem WT.take{l:List Oper}{i:Nat}{o:Oper}{t:PT}{a:Act}{w:World}{v:Value}(ho:l[i]?=some o) (h:YieldsIf P l.toArray S o v a) (k:WT P l Q S t (a.put o.dst v) w):WT P l Q S (.take i t) a w:=fun o' ho'=>by
 obtain rfl:o=o':=by rw[ho] at ho';exact Option.some.inj ho'
 exact⟨v,h,k⟩
theorem WT.step{l:List Oper}{i:Nat}{o:Oper}{t:PT}{a:Act}{w:World}(ho:l[i]?=some o) (h:∀K:Act->World->Prop,Shut (∀a w,S w->(S w->WT P l Q S t a w)->K a w)->if Region.wanted o (yielded l.toArray a.tmps)=true then Oper.wp P o a w K Q else K (a.put o.dst undef) w):WT P l Q S (.step i t) a w:=fun o' ho'=>by
 obtain rfl:o=o':=by rw[ho] at ho';exact Option.some.inj ho'
 exact h
theorem WT.fork{l:List Oper}{i j:Nat}{o o2:Oper}{t u:PT}{a:Act}{w:World}(ho:l[i]?=some o) (ho2:l[j]?=some o2) (h:∀K:Act->World->Prop,Shut (∀a w,S w->(S w->WT P l Q S t a w)->K a w)->if Region.wanted o (yielded l.toArray a.tmps)=true then Oper.wp P o a w K Q else K (a.put o.dst undef) w)
  (h2:∀K:Act->World->Prop,Shut (∀a w,S w->(S w->WT P l Q S u a w)->K a w)->if Region.wanted o2 (yielded l.toArray a.tmps)=true then Oper.wp P o2 a w K Q else K (a.put o2.dst undef) w):WT P l Q S (.fork i t j u) a w:=
 ⟨fun o' ho'=>by
  obtain rfl:o=o':=by rw[ho] at ho';exact Option.some.inj ho'
  exact h,fun o' ho'=>by
  obtain rfl:o2=o':=by rw[ho2] at ho';exact Option.some.inj ho'
  exact h2⟩
theorem WT.done{l:List Oper}{a:Act}{w:World}(h:Q .normal a w):WT P l Q S .done a w:=h
theorem jz{l:List Oper}{i:Nat}{o:Oper}{t:PT}{a a':Act}{w:World}{v:Value}(k:WT P l Q S t a' w)(ho:l[i]?=some o:=by exact rfl) (h:∀w8,S w8->(execOp a.eval o).run P w8=.ok (.value v) w8:=by(intro w8 hSw;(try dsimp only at hSw);go_simp;any_goals with_reducible rfl)) (hw:Region.wanted o (yielded l.toArray a.tmps)=true:=by rfl) (he:a.put o.dst v=a':=by(first|(simp only[Act.put,pa,pb,pc,jP,jA,jB,jC,jD,jE,jG];rfl)|(simp only[Act.put,pa,pb,pc,jP,jA,jB,jC];rfl)|rfl)):WT P l Q S (.take i t) a w:=
 WT.take ho (Or.inl ⟨hw,h⟩) (he▸k)
theorem jH{l:List Oper}{i:Nat}{o:Oper}{t:PT}{a a':Act}{w:World}(v:Value)(ho:l[i]?=some o) (h:∀w8,S w8->(execOp a.eval o).run P w8=.ok (.value v) w8) (k:WT P l Q S t a' w) (hw:Region.wanted o (yielded l.toArray a.tmps)=true:=by rfl) (he:a.put o.dst v=a':=by(first|(simp only[Act.put,pa,pb,pc,jP,jA,jB,jC,jD,jE,jG];rfl)|(simp only[Act.put,pa,pb,pc,jP,jA,jB,jC];rfl)|rfl)):WT P l Q S (.take i t) a w:=
 WT.take ho (Or.inl ⟨hw,h⟩) (he▸k)
theorem zzWTu{l:List Oper}{i:Nat}{o:Oper}{t:PT}{a a':Act}{w:World}(k:WT P l Q S t a' w)(ho:l[i]?=some o:=by exact rfl) (hw:Region.wanted o (yielded l.toArray a.tmps)=false:=by rfl) (he:a.put o.dst undef=a':=by(first|(simp only[Act.put,pa,pb,pc,jP,jA,jB,jC,jD,jE,jG];rfl)|(simp only[Act.put,pa,pb,pc,jP,jA,jB,jC];rfl)|rfl)):WT P l Q S (.take i t) a w:=
 WT.take ho (Or.inr ⟨hw,rfl⟩) (he▸k)
theorem uU{l:List Oper}(h1:Region.noSelect l.toArray=true)(hQ:∀(d:Tmp) v c a w,Q (.panic c) (a.put (some d) v) w->Q (.panic c) a w):
  ∀(t:PT) (d:List Nat) (a:Act) (w:World),vF l d t=true->S w->WT P l Q S t a w->wpAnyH P .any l.toArray Q S t.len (JH l.length d) a w:=by
 intro t
 induction t with
 |done=>
  intro d a w hp _ h;simp only[vF,List.isEmpty_iff] at hp;exact wpAnyH_done hp h _
 |take i t ih=>
  intro d a w hp hS h;simp only[vF,Bool.and_eq_true,decide_eq_true_eq] at hp;obtain⟨⟨hi,hat⟩,hnx⟩:=hp;obtain⟨o,hg⟩:∃o,l[i]?=some o:=⟨_,List.getElem?_eq_getElem hi⟩;have hga:l.toArray[i]?=some o:=by simpa using hg
  obtain⟨v,hy,hw⟩:=h o hg
  exact wpAnyH_take hga h1 hat.1 hat.2 (fun c a w hp=>by
   cases hd:o.dst with
   |none=>rw[hd] at hp;exact hp
   |some d=>rw[hd] at hp;exact hQ d _ c a w hp) hy hS (by rw[JU];exact ih (i::d) _ w hnx hS hw)
 |step i t ih=>
  intro d a w hp hS h;simp only[vF,Bool.and_eq_true,decide_eq_true_eq,beq_iff_eq] at hp;obtain⟨⟨hi,hat⟩,hnx⟩:=hp;obtain⟨o,hg⟩:∃o,l[i]?=some o:=⟨_,List.getElem?_eq_getElem hi⟩;have hga:l.toArray[i]?=some o:=by simpa using hg
  refine wpAnyH_ready (rs:=[i]) hat (by simp) (AllReadyH.cons hga (fun K hK=>?_) AllReadyH.nil);exact h o hg K fun a w hs hwl=>hK a w hs fun hs'=>by rw[JU];exact ih (i::d) a w hnx hs' (hwl hs')
 |fork i t j u ih ih2=>
  intro d a w hp hS h;simp only[vF,Bool.and_eq_true,decide_eq_true_eq,beq_iff_eq] at hp;obtain⟨⟨⟨⟨⟨hi,hj⟩,hat⟩,hlen⟩,hnx⟩,hnx2⟩:=hp;obtain⟨o,hg⟩:∃o,l[i]?=some o:=⟨_,List.getElem?_eq_getElem hi⟩;have hga:l.toArray[i]?=some o:=by simpa using hg
  obtain⟨o2,hg2⟩:∃o,l[j]?=some o:=⟨_,List.getElem?_eq_getElem hj⟩;have hga2:l.toArray[j]?=some o2:=by simpa using hg2
  refine wpAnyH_ready (rs:=[i,j]) hat (by simp) (AllReadyH.cons hga (fun K hK=>?_) (AllReadyH.cons hga2 (fun K hK=>?_) AllReadyH.nil))
  ·exact h.1 o hg K fun a w hs hwl=>hK a w hs fun hs'=>by rw[JU];exact ih (i::d) a w hnx hs' (hwl hs')
  ·exact h.2 o2 hg2 K fun a w hs hwl=>hK a w hs fun hs'=>by rw[JU,hlen];exact ih2 (j::d) a w hnx2 hs' (hwl hs')
theorem jJ{id:Nat}{l:List Oper}{a:Act}{w:World}(t:PT)(S:World->Prop)(hm:P.follows .mixedOrders=true)(hB:(Region.noSelect l.toArray&&t.len==l.length&&vF l [] t)=true)(hQ:∀(d:Tmp) v c a w,Q (.panic c) (a.put (some d) v) w->Q (.panic c) a w)
  (hS:S w.drew) (h:S w.drew->WT P l Q S t a w.drew):(Code.region id l.toArray true).wp P Q a w:=by
 simp only[Bool.and_eq_true,beq_iff_eq] at hB;obtain⟨⟨h1,h2⟩,h3⟩:=hB;refine wp_region_held_drew (S:=S) hm hS fun hs=>?_
 have:=uU (P:=P) (Q:=Q) (S:=S) h1 hQ t [] a w.drew h3 hs (h hs);rw[PL,h2] at this;exact this
end
end Go.Proofs.YtpkalgofejjggaaGreatDoor
