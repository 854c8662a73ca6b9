/- append to a slice of the call's own -/
import Derived.Test.YtpkalgofejjggaaGreatDoorBPBG01
import Derived.Test.YtpkalgofejjggaaGreatDoorBPBG02
import Derived.OwnWalk
import Derived.Laws.CopyOwn
import Derived.Laws.MakeOwn
import Derived.Deep.Quiet
namespace Go.Proofs.YtpkalgofejjggaaGreatDoor
open Go.ChangeShapes Go.WideShapes Go.ChangeAt Go.RowKit
def jo(k:IntKind)(l:List Nat):List Value:=l.map fun x:Nat=>Value.int k (x:Int)
theorem js(k:IntKind)(l:List Nat):(jo k l).length=l.length:=by simp[jo]
theorem qp(k:IntKind)(l m:List Nat):jo k (l++m)=jo k l++jo k m:=by simp[jo]
theorem Jx(k:IntKind)(l:List Nat):∀u∈jo k l,u.oneCell'=true:=by
 intro u hu;obtain⟨_,_,rfl⟩:=List.mem_map.1 hu
 rfl
theorem qC(k:IntKind)(l:List Nat)(i:Nat):(jo k l)[i]?=(l[i]?).map fun x:Nat=>Value.int k (x:Int):=by simp[jo]
def F7(k:IntKind)(w:World)(v:Value)(l:List Nat):Prop:=
 ∃(ao:Option Addr) (cap:Nat),v=.slice ao l.length cap/\l.length<=cap/\cap<=maxLen/\(ao=none->cap=0)/\
  (0<l.length->∃b o,ao=some ⟨b,o,none⟩/\∀i x:Nat,l[i]?=some x->w.cell? ⟨b,o+i,none⟩=some (.int k (x:Int)))
theorem F7.later{k:IntKind}{w w':World}{v:Value}{l:List Nat}(h:F7 k w v l)(hb:Below w.heap.size w w'):F7 k w' v l:=by
 obtain⟨ao,cap,h1,h2,h3,h4,h5⟩:=h;refine⟨ao,cap,h1,h2,h3,h4,fun h0=>?_⟩;obtain⟨b,o,h6,h7⟩:=h5 h0;refine⟨b,o,h6,fun i x hx=>?_⟩;rw[hb.cell (p:=⟨b,o+i,none⟩) (World.block_lt_of_cell? (a:=⟨b,o+i,none⟩) _ (h7 i x hx))];exact h7 i x hx
theorem F7.nil(k:IntKind)(w:World):F7 k w (.slice none 0 0) []:=⟨none,0,rfl,Nat.le_refl _,Nat.zero_le _,fun _=>rfl,fun h=>absurd h (Nat.lt_irrefl _)⟩
theorem F7.of_own{k:IntKind}{w:World}{base:Nat}{e:TypeId}{v:Value}{l:List Nat}{n:Nat}(h:w.ownsRow base e 1 v n (jo k l))(hn:n=l.length):F7 k w v l:=by
 subst hn;obtain⟨h1,h2⟩:=h
 rcases h2 with⟨rfl,h3⟩|⟨g,cap,cur,rfl,hb,hg,hc,hm,hs,ht⟩
 ·have:l=[]:=List.length_eq_zero_iff.1 h3;subst this;exact F7.nil k w
 ·refine⟨_,_,rfl,hc,hm,(fun h=>by cases h),fun _=>⟨g,0,rfl,fun i x hx=>?_⟩⟩;have hi:i<l.length:=(List.getElem?_eq_some_iff.1 hx).1;rw[Nat.zero_add,cell_of_row w g i cur e (0,0) hg];have:(cur.toList.take (l.length*1))[i]?=some (.int k (x:Int)):=by rw[ht,qC,hx];rfl
  rw[List.getElem?_take,if_pos (by omega)] at this
  simpa using this
theorem SL(k:IntKind)(c:Nat):madeCells (Value.cells (.int k 0)) (c*1)=(List.replicate c (Value.int k 0)).toArray:=by
 apply Array.ext'
 simp[madeCells,Value.cells,Nat.mod_one,List.map_const']
theorem bV{k:IntKind}{w:World}{g c base:Nat}{e:TypeId}{l:List Nat}(hB:base<=g)(hc:l.length<=c)(hm:c<=maxLen)
  (h:w.heap[g]?=some (.cells (splice (List.replicate c (Value.int k 0)) 0 (jo k l)).toArray e (0,0))):w.ownsRow base e 1 (.slice (some ⟨g,0,none⟩) l.length c) l.length (jo k l):=by
 refine⟨by simp[js],.inr ⟨g,c,_,rfl,hB,h,hc,hm,?_,?_⟩⟩
 ·simp[splice,js]
  omega
 ·simp[splice,js]
def O1(w:World)(base:Nat)(e:TypeId)(size:Nat)(v:Value)(n:Nat)(xs:List Value):Prop:=
 xs.length=n*size/\((v=.slice none 0 0/\n=0)∨
  ∃g o cap cur,v=.slice (some ⟨g,o,none⟩) n cap/\base<=g/\w.heap[g]?=some (.cells cur e (0,0))/\n<=cap/\cap<=maxLen/\o+cap*size<=cur.size/\(cur.toList.drop o).take (n*size)=xs)
theorem O1.of_row{w:World}{base:Nat}{e:TypeId}{size:Nat}{v:Value}{n:Nat}{xs:List Value}(h:w.ownsRow base e size v n xs):O1 w base e size v n xs:=by
 obtain⟨h1,h2⟩:=h;refine⟨h1,?_⟩
 rcases h2 with h2|⟨g,cap,cur,h3,h4,h5,h6,h7,h8,h9⟩
 ·exact .inl h2
 ·exact .inr ⟨g,0,cap,cur,h3,h4,h5,h6,h7,by omega,by simpa using h9⟩
theorem O1.base{w:World}{B B':Nat}{e:TypeId}{size:Nat}{v:Value}{n:Nat}{xs:List Value}(h:O1 w B e size v n xs)(hB:B'<=B):O1 w B' e size v n xs:=by
 obtain⟨h1,h2⟩:=h;refine⟨h1,?_⟩
 rcases h2 with h2|⟨g,o,cap,cur,h3,h4,h5⟩
 ·exact .inl h2
 ·exact .inr ⟨g,o,cap,cur,h3,Nat.le_trans hB h4,h5⟩
theorem O1.later{w w':World}{B:Nat}{e:TypeId}{size:Nat}{v:Value}{n:Nat}{xs:List Value}(h:O1 w B e size v n xs)(hb:Below w.heap.size w w'):O1 w' B e size v n xs:=by
 obtain⟨h1,h2⟩:=h;refine⟨h1,?_⟩
 rcases h2 with h2|⟨g,o,cap,cur,h3,h4,h5,h6⟩
 ·exact .inl h2
 ·exact .inr ⟨g,o,cap,cur,h3,h4,(hb.block g (J6.1 h5).1).trans h5,h6⟩
theorem O1.lt{w:World}{B:Nat}{e:TypeId}{size:Nat}{v:Value}{n:Nat}{xs:List Value}(h:O1 w B e size v n xs):∀k,v.ownBlock=some k->B<=k/\k<w.heap.size:=by
 intro k hk
 rcases h.2 with⟨rfl,_⟩|⟨g,o,cap,cur,rfl,h4,h5,_⟩
 ·simp[Value.ownBlock] at hk
 ·simp[Value.ownBlock] at hk
  subst hk;exact⟨h4,(J6.1 h5).1⟩
theorem O1.kept{w w':World}{B:Nat}{e:TypeId}{size:Nat}{v:Value}{n:Nat}{xs:List Value}{row:Option Nat}(h:O1 w B e size v n xs)(hg:w.grownBy w' row)(hne:v.ownBlock=none∨v.ownBlock≠row):O1 w' B e size v n xs:=by
 refine⟨h.1,?_⟩
 rcases h.2 with hn|⟨g,o,cap,cur,rfl,hb,hgg,rest⟩
 ·exact .inl hn
 ·refine .inr ⟨g,o,cap,cur,rfl,hb,?_,rest⟩;rw[hg.block g (J6.1 hgg).1 (by simpa[Value.ownBlock] using hne)];exact hgg
theorem O1.cells{w:World}{B:Nat}{e:TypeId}{size:Nat}{n:Nat}{xs:List Value}{g o cap:Nat}(h:O1 w B e size (.slice (some ⟨g,o,none⟩) n cap) n xs):∀j u,xs[j]?=some u->w.cell? ((⟨g,o,none⟩:Addr).add j)=some u:=by
 intro j u hu
 rcases h.2 with⟨h0,_⟩|⟨g',o',cap',cur,h0,_,hgg,_,_,_,htake⟩
 ·cases h0
 ·simp only[Value.slice.injEq,Option.some.injEq,Addr.mk.injEq,and_true,true_and] at h0;obtain⟨⟨rfl,rfl⟩,rfl⟩:=h0;rw[Addr.add_lit,cell_of_row w g (o+j) cur e (0,0) hgg];rw[<-htake,List.getElem?_take] at hu
  split at hu
  ·rw[List.getElem?_drop] at hu
   simpa using hu
  ·cases hu
section
variable {P:Program}(w:World)
def ZT(w:World)(size:Nat)(x:Value)(m:Nat)(news:List Value):Prop:=
 ∃sp c,x=.slice sp m c/\news.length=m*size/\(∀u∈news,u.oneCell'=true)/\(sp=none->m=0)/\∀ad,sp=some ad->∀j u,news[j]?=some u->w.cell? (ad.add j)=some u
theorem oI{size:Nat}{x:Value}{m:Nat}{news:List Value}(h:ZT w size x m news):(Builtin.firstCells size m x).run P w=.ok news.toArray w:=by
 obtain⟨sp,c,rfl,hl,_,h0,hc⟩:=h
 cases sp with
 |none=>
  have hm:=h0 rfl;subst hm;have:news=[]:=List.eq_nil_of_length_eq_zero (by simpa using hl);subst this
  simp[Builtin.firstCells]
 |some ad=>exact run_firstCells_some w size m ad m c news hl (hc ad rfl)
theorem yD(t ty e:TypeId)(i:TypeInfo)(ht:P.underlying t=some (.slice e))(hi:P.info? e=some i)(g o sLen sCap:Nat)(cur:Array Value)(hg:w.heap[g]?=some (.cells cur e (0,0)))
  (x:Value) (m:Nat) (news:List Value) (hx:ZT w i.size x m news) (hroom:sLen+m<=sCap) (hfit:o+sLen*i.size+news.length<=cur.size):
  (Builtin.append_ #[t,t] ty #[.slice (some ⟨g,o,none⟩) sLen sCap,x]).run P w=
   .ok (.slice (some ⟨g,o,none⟩) (sLen+m) sCap) (w.setRow g (cur.toList.take (o+sLen*i.size)++news++cur.toList.drop (o+sLen*i.size+news.length)).toArray):=by
 have hf:=oI (P:=P) w hx;obtain⟨sp,c,rfl,hl,h1,_⟩:=hx;have hst:=run_storeCells_at P g (o+sLen*i.size) e news 0 cur w hg (by simpa using hfit) h1;simp only[Nat.add_zero] at hst
 simp[Builtin.append_,run_underlying ht,sizeOf,typeInfo,hi,Builtin.lenOf,hroom,hf,Addr.add_lit,hst]
theorem MQ(base:Nat)(t ty e:TypeId)(i:TypeInfo)(z:Value)(size bytes:Nat)(ht:P.underlying t=some (.slice e))(hi:P.info? e=some i)(hz:i.zero=some z)
  (hsize:i.size=size) (hby:i.bytes=bytes) (hzs:z.cells.size=size) (v:Value) (n:Nat) (xs:List Value) (hown:O1 w base e size v n xs)
  (x:Value) (m:Nat) (news:List Value) (hx:ZT w size x m news) (h63:n+m<=maxLen) (hbytes:(n+m)*bytes<=140737488355328) (hbase:base<=w.heap.size):
  ∃v' w',(Builtin.append_ #[t,t] ty #[v,x]).run P w=.ok v' w'/\O1 w' base e size v' (n+m) (xs++news)/\w.grownBy w' v.ownBlock:=by
 subst hsize;subst hby;have hl:news.length=m*i.size:=by obtain⟨_,_,_,hl,_⟩:=hx;exact hl
 have hsmall:n+m<=9223372036854775807:=by simp only[maxLen] at h63;omega
 have hlen:(xs++news).length=(n+m)*i.size:=by rw[List.length_append,hown.1,hl,Nat.add_mul]
 have grown:∀(old:Nat),old<n+m->∀(row:Option Nat),
   O1 (w.drew.alloc (.cells (xs.toArray++news.toArray++Builtin.zeroCells z.cells (grownCap w (n+m) old e-(n+m))) e)) base e i.size (.slice (some ⟨w.heap.size,0,none⟩) (n+m) (grownCap w (n+m) old e)) (n+m) (xs++news)/\
   w.grownBy (w.drew.alloc (.cells (xs.toArray++news.toArray++Builtin.zeroCells z.cells (grownCap w (n+m) old e-(n+m))) e)) row:=by
  intro old ho row;have hge:=grownCap_ge w (n+m) old e;have hcm:grownCap w (n+m) old e<=maxLen:=grownCap_le_maxLen w (n+m) old e h63;refine⟨⟨hlen,.inr ⟨w.heap.size,0,_,_,rfl,hbase,heap_alloc_new w.drew _,hge,hcm,?_,?_⟩⟩,⟨rfl,rfl,rfl,by simp,fun k hk _=>Below.heap_alloc w.drew _ k hk⟩⟩
  ·simp only[Array.size_append,List.size_toArray,size_zeroCells,hzs,hown.1,hl,<-Nat.add_mul];rw[Nat.zero_add];refine Nat.le_of_eq ?_
   congr 1
   omega
  ·simp only[Array.toList_append,List.drop_zero];rw[<-hlen];exact List.take_left
 obtain⟨sp,c,rfl,_,h1,h0,hc⟩:=id hx
 rcases hown.2 with⟨rfl,rfl⟩|⟨g,o,cap,cur,rfl,hbg,hg,hnc,hcm,hcs,htake⟩
 ·have hxs:xs=[]:=List.eq_nil_of_length_eq_zero (by simpa using hown.1);subst hxs
  by_cases hm:m=0
  ·subst hm;have hn:news=[]:=List.eq_nil_of_length_eq_zero (by simpa using hl);subst hn;have hf:=oI (P:=P) w hx;refine⟨.slice none 0 0,w,?_,⟨by simp,.inl ⟨rfl,rfl⟩⟩,⟨rfl,rfl,rfl,Nat.le_refl _,fun _ _ _=>rfl⟩⟩
   simp[Builtin.append_,run_underlying ht,sizeOf,typeInfo,hi,Builtin.lenOf,hf]
  ·cases sp with
   |none=>exact absurd (h0 rfl) hm
   |some ad=>
    have hr:=run_append_nil (P:=P) w t ty e i z ht hi hz ad m c news hl (hc ad rfl) (by omega) (by omega) (by have hb:=hbytes;simp only[Nat.zero_add] at hb;omega);have hgr:=grown 0 (by omega) (Value.ownBlock (.slice none 0 0));simp only[Nat.zero_add,List.nil_append,Array.empty_append] at hgr⊢;exact⟨_,_,hr,hgr.1,hgr.2⟩
 ·by_cases hroom:n+m<=cap
  ·have h2:(n+m)*i.size<=cap*i.size:=Nat.mul_le_mul_right _ hroom;rw[Nat.add_mul,<-hl] at h2;have hr:=yD (P:=P) w t ty e i ht hi g o n cap cur hg _ m news hx hroom (by omega);refine⟨_,_,hr,⟨hlen,.inr ⟨g,o,cap,_,rfl,hbg,setRow_heap w g cur _ e _ hg,hroom,hcm,?_,?_⟩⟩,⟨rfl,rfl,rfl,by simp,fun k _ hk=>setRow_other w g k _ (fun e=>hk (by simp[Value.ownBlock,e]))⟩⟩
   ·simp only[List.size_toArray,List.length_append,List.length_take,List.length_drop,Array.length_toList];omega
   ·have h3:(cur.toList.take (o+n*i.size)).drop o=xs:=by
     rw[List.drop_take,show o+n*i.size-o=n*i.size by omega];exact htake
    have h4:(cur.toList.take (o+n*i.size)).length=o+n*i.size:=by
     rw[List.length_take,Array.length_toList];omega
    rw[List.append_assoc,List.drop_append_of_le_length (by rw[h4];omega),h3,<-List.append_assoc,<-hlen];exact List.take_left
  ·cases sp with
   |none=>exact absurd (h0 rfl) (by omega)
   |some ad=>
    have hr:=run_append_grow (P:=P) w t ty e i z ht hi hz ⟨g,o,none⟩ n cap xs hown.1 hown.cells ad m c news hl (hc ad rfl) (by omega) (by omega) (growslice_fits (by omega) hbytes);have hgr:=grown cap (by omega) (Value.ownBlock (.slice (some ⟨g,o,none⟩) n cap));exact⟨_,_,hr,hgr.1,hgr.2⟩
end
theorem JN{P:Program}{w:World}{ops:Array Oper}{rest:List Oper}{o:Oper}{a:Act}{Q:Exit->Act->World->Prop}(hgd:o.guard=none)(s x:Operand)(t:TypeId)
  (ho:o.op=.call {callee:=.builtin .append,args:=#[s,x],argTypes:=#[t,t]})
  (base:Nat) (e:TypeId) (i:TypeInfo) (z:Value) (size bytes:Nat) (ht:P.underlying t=some (.slice e)) (hi:P.info? e=some i) (hz:i.zero=some z)
  (hsize:i.size=size) (hby:i.bytes=bytes) (hzs:z.cells.size=size) (v:Value) (n:Nat) (xs:List Value) (hs:a.eval s=v) (hown:O1 w base e size v n xs)
  (y:Value) (m:Nat) (news:List Value) (hy:a.eval x=y) (hx:ZT w size y m news) (h63:n+m<=maxLen) (hbytes:(n+m)*bytes<=140737488355328) (hbase:base<=w.heap.size)
  (h:∀v' w',O1 w' base e size v' (n+m) (xs++news)->w.grownBy w' v.ownBlock->wpList P ops Q rest (a.put o.dst v') w'):wpList P ops Q (o::rest) a w:=by
 refine wpList_plain hgd fun K hK=>?_
 obtain⟨v',w',hr,h2,h3⟩:=MQ (P:=P) w base t o.type e i z size bytes ht hi hz hsize hby hzs v n xs hown y m news hx h63 hbytes hbase;unfold Oper.wp execOp;simp only[ho,resolve,invoke,builtin,Sem.run_bind,Sem.run_pure,Result.andThen_ok,List.map_toArray,List.map_cons,List.map_nil,hs,hy,hr];exact hK _ _ (h v' w' h2 h3)
section
variable {P:Program}(w:World)
def Lies(w w':World)(v v':Value)(n m:Nat):Prop:=(∃g o cap,v=.slice (some ⟨g,o,none⟩) n cap/\v'=.slice (some ⟨g,o,none⟩) (n+m) cap)∨(v'.ownBlock=some w.heap.size/\w.grownBy w' none)∨(m=0/\v'=v/\w'=w)
theorem ZH(base:Nat)(t ty e:TypeId)(i:TypeInfo)(z:Value)(size bytes:Nat)(ht:P.underlying t=some (.slice e))(hi:P.info? e=some i)(hz:i.zero=some z)
  (hsize:i.size=size) (hby:i.bytes=bytes) (hzs:z.cells.size=size) (v:Value) (n:Nat) (xs:List Value) (hown:O1 w base e size v n xs)
  (x:Value) (m:Nat) (news:List Value) (hx:ZT w size x m news) (h63:n+m<=maxLen) (hbytes:(n+m)*bytes<=140737488355328) (hbase:base<=w.heap.size):
  ∃v' w',(Builtin.append_ #[t,t] ty #[v,x]).run P w=.ok v' w'/\O1 w' base e size v' (n+m) (xs++news)/\w.grownBy w' v.ownBlock/\Lies w w' v v' n m:=by
 subst hsize;subst hby;have hl:news.length=m*i.size:=by obtain⟨_,_,_,hl,_⟩:=hx;exact hl
 have hsmall:n+m<=9223372036854775807:=by simp only[maxLen] at h63;omega
 have hlen:(xs++news).length=(n+m)*i.size:=by rw[List.length_append,hown.1,hl,Nat.add_mul]
 have grown:∀(old:Nat),old<n+m->∀(row:Option Nat),
   O1 (w.drew.alloc (.cells (xs.toArray++news.toArray++Builtin.zeroCells z.cells (grownCap w (n+m) old e-(n+m))) e)) base e i.size (.slice (some ⟨w.heap.size,0,none⟩) (n+m) (grownCap w (n+m) old e)) (n+m) (xs++news)/\
   w.grownBy (w.drew.alloc (.cells (xs.toArray++news.toArray++Builtin.zeroCells z.cells (grownCap w (n+m) old e-(n+m))) e)) row:=by
  intro old ho row;have hge:=grownCap_ge w (n+m) old e;have hcm:grownCap w (n+m) old e<=maxLen:=grownCap_le_maxLen w (n+m) old e h63;refine⟨⟨hlen,.inr ⟨w.heap.size,0,_,_,rfl,hbase,heap_alloc_new w.drew _,hge,hcm,?_,?_⟩⟩,⟨rfl,rfl,rfl,by simp,fun k hk _=>Below.heap_alloc w.drew _ k hk⟩⟩
  ·simp only[Array.size_append,List.size_toArray,size_zeroCells,hzs,hown.1,hl,<-Nat.add_mul];rw[Nat.zero_add];refine Nat.le_of_eq ?_
   congr 1
   omega
  ·simp only[Array.toList_append,List.drop_zero];rw[<-hlen];exact List.take_left
 obtain⟨sp,c,rfl,_,h1,h0,hc⟩:=id hx
 rcases hown.2 with⟨rfl,rfl⟩|⟨g,o,cap,cur,rfl,hbg,hg,hnc,hcm,hcs,htake⟩
 ·have hxs:xs=[]:=List.eq_nil_of_length_eq_zero (by simpa using hown.1);subst hxs
  by_cases hm:m=0
  ·subst hm;have hn:news=[]:=List.eq_nil_of_length_eq_zero (by simpa using hl);subst hn;have hf:=oI (P:=P) w hx;refine⟨.slice none 0 0,w,?_,⟨by simp,.inl ⟨rfl,rfl⟩⟩,⟨rfl,rfl,rfl,Nat.le_refl _,fun _ _ _=>rfl⟩,.inr (.inr ⟨rfl,rfl,rfl⟩)⟩
   simp[Builtin.append_,run_underlying ht,sizeOf,typeInfo,hi,Builtin.lenOf,hf]
  ·cases sp with
   |none=>exact absurd (h0 rfl) hm
   |some ad=>
    have hr:=run_append_nil (P:=P) w t ty e i z ht hi hz ad m c news hl (hc ad rfl) (by omega) (by omega) (by have hb:=hbytes;simp only[Nat.zero_add] at hb;omega);have hgr:=grown 0 (by omega) (Value.ownBlock (.slice none 0 0));have hgn:=grown 0 (by omega) none;simp only[Nat.zero_add,List.nil_append,Array.empty_append] at hgr hgn⊢;exact⟨_,_,hr,hgr.1,hgr.2,.inr (.inl ⟨rfl,hgn.2⟩)⟩
 ·by_cases hroom:n+m<=cap
  ·have h2:(n+m)*i.size<=cap*i.size:=Nat.mul_le_mul_right _ hroom;rw[Nat.add_mul,<-hl] at h2;have hr:=yD (P:=P) w t ty e i ht hi g o n cap cur hg _ m news hx hroom (by omega);refine⟨_,_,hr,⟨hlen,.inr ⟨g,o,cap,_,rfl,hbg,setRow_heap w g cur _ e _ hg,hroom,hcm,?_,?_⟩⟩,⟨rfl,rfl,rfl,by simp,fun k _ hk=>setRow_other w g k _ (fun e=>hk (by simp[Value.ownBlock,e]))⟩,.inl ⟨g,o,cap,rfl,rfl⟩⟩
   ·simp only[List.size_toArray,List.length_append,List.length_take,List.length_drop,Array.length_toList];omega
   ·have h3:(cur.toList.take (o+n*i.size)).drop o=xs:=by
     rw[List.drop_take,show o+n*i.size-o=n*i.size by omega];exact htake
    have h4:(cur.toList.take (o+n*i.size)).length=o+n*i.size:=by
     rw[List.length_take,Array.length_toList];omega
    rw[List.append_assoc,List.drop_append_of_le_length (by rw[h4];omega),h3,<-List.append_assoc,<-hlen];exact List.take_left
  ·cases sp with
   |none=>exact absurd (h0 rfl) (by omega)
   |some ad=>
    have hr:=run_append_grow (P:=P) w t ty e i z ht hi hz ⟨g,o,none⟩ n cap xs hown.1 hown.cells ad m c news hl (hc ad rfl) (by omega) (by omega) (growslice_fits (by omega) hbytes);have hgr:=grown cap (by omega) (Value.ownBlock (.slice (some ⟨g,o,none⟩) n cap));exact⟨_,_,hr,hgr.1,hgr.2,.inr (.inl ⟨rfl,(grown cap (by omega) none).2⟩)⟩
end
theorem jX{P:Program}{w:World}{ops:Array Oper}{rest:List Oper}{o:Oper}{a:Act}{Q:Exit->Act->World->Prop}(hgd:o.guard=none)(s x:Operand)(t:TypeId)
  (ho:o.op=.call {callee:=.builtin .append,args:=#[s,x],argTypes:=#[t,t]})
  (base:Nat) (e:TypeId) (i:TypeInfo) (z:Value) (size bytes:Nat) (ht:P.underlying t=some (.slice e)) (hi:P.info? e=some i) (hz:i.zero=some z)
  (hsize:i.size=size) (hby:i.bytes=bytes) (hzs:z.cells.size=size) (v:Value) (n:Nat) (xs:List Value) (hs:a.eval s=v) (hown:O1 w base e size v n xs)
  (y:Value) (m:Nat) (news:List Value) (hy:a.eval x=y) (hx:ZT w size y m news) (h63:n+m<=maxLen) (hbytes:(n+m)*bytes<=140737488355328) (hbase:base<=w.heap.size)
  (h:∀v' w',O1 w' base e size v' (n+m) (xs++news)->w.grownBy w' v.ownBlock->Lies w w' v v' n m->wpList P ops Q rest (a.put o.dst v') w'):wpList P ops Q (o::rest) a w:=by
 refine wpList_plain hgd fun K hK=>?_
 obtain⟨v',w',hr,h2,h3,h4⟩:=ZH (P:=P) w base t o.type e i z size bytes ht hi hz hsize hby hzs v n xs hown y m news hx h63 hbytes hbase;unfold Oper.wp execOp;simp only[ho,resolve,invoke,builtin,Sem.run_bind,Sem.run_pure,Result.andThen_ok,List.map_toArray,List.map_cons,List.map_nil,hs,hy,hr];exact hK _ _ (h v' w' h2 h3 h4)
section
variable {P:Program}{w:World}
theorem JI{ops:Array Oper}{o:Oper}{a:Act}{K:Act->World->Prop}{Q:Exit->Act->World->Prop}{E:Prop}(hgd:o.guard=none)(s x:Operand)(t:TypeId)
  (ho:o.op=.call {callee:=.builtin .append,args:=#[s,x],argTypes:=#[t,t]})
  (base:Nat) (e:TypeId) (i:TypeInfo) (z:Value) (size bytes:Nat) (ht:P.underlying t=some (.slice e)) (hi:P.info? e=some i) (hz:i.zero=some z)
  (hsize:i.size=size) (hby:i.bytes=bytes) (hzs:z.cells.size=size) (v:Value) (n:Nat) (xs:List Value) (hs:a.eval s=v) (hown:O1 w base e size v n xs)
  (y:Value) (m:Nat) (news:List Value) (hy:a.eval x=y) (hx:ZT w size y m news) (h63:n+m<=maxLen) (hbytes:(n+m)*bytes<=140737488355328) (hbase:base<=w.heap.size)
  (h:∀v' w',O1 w' base e size v' (n+m) (xs++news)->w.grownBy w' v.ownBlock->Lies w w' v v' n m->K (a.put o.dst v') w'):
  if Region.wanted o (yielded ops a.tmps)=true then Oper.wp P o a w K Q else E:=by
 have hw:Region.wanted o (yielded ops a.tmps)=true:=by simp[Region.wanted,hgd]
 rw[if_pos hw];obtain⟨v',w',hr,h2,h3,h4⟩:=ZH (P:=P) w base t o.type e i z size bytes ht hi hz hsize hby hzs v n xs hown y m news hx h63 hbytes hbase;unfold Oper.wp execOp;simp only[ho,resolve,invoke,builtin,Sem.run_bind,Sem.run_pure,Result.andThen_ok,List.map_toArray,List.map_cons,List.map_nil,hs,hy,hr];exact h v' w' h2 h3 h4
end
theorem O1.sl{w:World}{base:Nat}{e:TypeId}{size:Nat}{v:Value}{n:Nat}{xs:List Value}(h:O1 w base e size v n xs):∃a c,v=.slice a n c:=by
 rcases h.2 with⟨rfl,rfl⟩|⟨g,o,cap,cur,h,_⟩
 ·exact⟨_,_,rfl⟩
 ·exact⟨_,_,h⟩
theorem O1.block{w w':World}{B:Nat}{e:TypeId}{size:Nat}{v:Value}{n:Nat}{xs:List Value}(h:O1 w B e size v n xs)(hb:∀g,v.ownBlock=some g->w'.heap[g]?=w.heap[g]?):O1 w' B e size v n xs:=by
 obtain⟨h1,h2⟩:=h;refine⟨h1,?_⟩
 rcases h2 with h2|⟨g,o,cap,cur,rfl,h4,h5,h6⟩
 ·exact .inl h2
 ·exact .inr ⟨g,o,cap,cur,rfl,h4,(hb g rfl).trans h5,h6⟩
theorem qe{w0 w w':World}(h:Below w0.heap.size w0 w)(hb:Below w.heap.size w w'):Below w0.heap.size w0 w':=h.trans (hb.mono h.size)
theorem jj{w w':World}{a:Addr}{v:Value}(h:w.cell? a=some v)(hb:Below w.heap.size w w'):w'.cell? a=some v:=(World.cell?_of_block (w:=w) (hb.block a.block (World.block_lt_of_cell? (a:=a) _ h))).trans h
theorem F7.block{k:IntKind}{w w':World}{v:Value}{l:List Nat}(h:F7 k w v l)(hb:∀g,v.ownBlock=some g->w'.heap[g]?=w.heap[g]?):F7 k w' v l:=by
 obtain⟨ao,cap,rfl,h1,h2,h3,h4⟩:=h;refine⟨ao,cap,rfl,h1,h2,h3,fun h0=>?_⟩;obtain⟨g,o,rfl,hc⟩:=h4 h0;exact⟨g,o,rfl,fun i x hx=>(World.cell?_of_block (w:=w) (a:=⟨g,o+i,none⟩) (hb g rfl)).trans (hc i x hx)⟩
theorem mG{X w2:World}{v v2:Value}{n m g:Nat}(h:Lies X w2 v v2 n m)(hv:v.ownBlock≠some g)(hg:g<X.heap.size):v2.ownBlock≠some g:=by
 rcases h with⟨b,o,cap,rfl,rfl⟩|⟨h,_⟩|⟨_,rfl,_⟩
 ·exact hv
 ·rw[h];intro e
  cases e
  exact Nat.lt_irrefl _ hg
 ·exact hv
theorem oL{w:World}{base:Nat}{e:TypeId}{size n:Nat}{xs:List Value}{g o cap:Nat}(h:O1 w base e size (.slice (some ⟨g,o,none⟩) n cap) n xs)(j:Nat):w.frozen? ⟨g,j,none⟩=false:=by
 obtain⟨h1,h2⟩:=h
 rcases h2 with⟨h2,_⟩|⟨g',o',cap',cur,h3,h4,h5,_⟩
 ·cases h2
 ·cases h3
  simp[World.frozen?,h5]
end Go.Proofs.YtpkalgofejjggaaGreatDoor
