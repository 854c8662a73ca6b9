/- Book -/
import Derived.Test.YtpkalgofejjggaaGreatDoorBPBG03
import Derived.Test.YtpkalgofejjggaaGreatDoorRows
import Derived.WalkLawsBesides
import Derived.Deep.QuietTactic
import Derived.BigQuiet
import Derived.BigRegion
import Derived.Outline
import Derived.LoopTactic
set_option maxHeartbeats 3000000
set_option maxRecDepth 20000
namespace Go.Proofs.YtpkalgofejjggaaGreatDoor
open Go.ChangeShapes Go.WideShapes Go.ChangeAt Go.RowKit Go.Proofs.Tryz
theorem KF:(prog.info? 5).map (fun i=>(i.zero,i.size,i.bytes))=some (some (.int .u8 0),1,1):=by kernel_rfl
theorem bH(w:World)(x:Value)(t:TypeId):∀(j:Nat) (u:Value),[x][j]?=some u->(w.alloc (.cells #[x] t)).cell? ((⟨w.heap.size,0,none⟩:Addr).add j)=some u:=by
 intro j u h
 cases j with
 |zero=>simp at h;subst h;simp[Addr.add]
 |succ j=>simp at h
theorem one_one{k:IntKind}(n:Int):∀u∈[Value.int k n],u.oneCell'=true:=fun u hu=>by simp at hu;subst hu;rfl
def Own(w:World)(base:Nat)(v:Value)(l:List Nat):Prop:=O1 w base 5 1 v l.length (jo .u8 l)
theorem Own.at_{w:World}{base:Nat}{v:Value}{l:List Nat}(h:Own w base v l):F7 .u8 w v l:=by
 have h':=h;obtain⟨h1,h2⟩:=h'
 rcases h2 with⟨rfl,h3⟩|⟨g,o,cap,cur,rfl,hb,hg,hc,hm,hs,ht⟩
 ·have:l=[]:=List.length_eq_zero_iff.1 h3;subst this;exact F7.nil _ w
 ·refine⟨_,_,rfl,hc,hm,(fun h=>by cases h),fun _=>⟨g,o,rfl,fun i x hx=>?_⟩⟩;have:=O1.cells h i (.int .u8 x) (by rw[qC,hx];rfl);rw[Addr.add_lit] at this;exact this
theorem Own.base{w:World}{B B':Nat}{v:Value}{l:List Nat}(h:Own w B v l)(hB:B'<=B):Own w B' v l:=O1.base h hB
theorem Own.later{w w':World}{B:Nat}{v:Value}{l:List Nat}(h:Own w B v l)(hb:Below w.heap.size w w'):Own w' B v l:=O1.later h hb
theorem Own.shape{w:World}{B:Nat}{v:Value}{l:List Nat}(h:Own w B v l):∃ao n cap,v=.slice ao n cap:=by
 obtain⟨ao,cap,h,_⟩:=h.at_;exact⟨ao,_,cap,h⟩
theorem F7.src{k:IntKind}{w:World}{v:Value}{l:List Nat}(h:F7 k w v l):ZT w 1 v l.length (jo k l):=by
 obtain⟨ao,cap,rfl,h1,h2,h3,h4⟩:=h;refine⟨ao,cap,rfl,by simp[js],Jx _ _,fun h0=>by have:=h3 h0;omega,fun ad had j u hu=>?_⟩;rw[qC] at hu;obtain⟨x,hx,rfl⟩:=Option.map_eq_some_iff.1 hu;obtain⟨b,o,hbo,hc⟩:=h4 (by have:=(List.getElem?_eq_some_iff.1 hx).1;omega);rw[had] at hbo
 cases hbo
 rw[Addr.add_lit];exact hc j x hx
theorem F7.cut{w:World}{g o cap:Nat}{b:List Nat}{k:IntKind}(hc:∀i x:Nat,b[i]?=some x->w.cell? ⟨g,o+i,none⟩=some (.int k x)) (h1:b.length<=cap) (h2:cap<=maxLen) (j n:Nat) (hn:j+n<=b.length):
  F7 k w (.slice (some ⟨g,o+j,none⟩) n (cap-j)) ((b.drop j).take n):=by
 have hl:((b.drop j).take n).length=n:=by simp;omega
 refine⟨some ⟨g,o+j,none⟩,cap-j,by rw[hl],by rw[hl];omega,by omega,(fun h=>by cases h),fun _=>⟨g,o+j,rfl,fun i x hx=>?_⟩⟩;rw[List.getElem?_take] at hx
 split at hx
 ·rw[List.getElem?_drop] at hx;rw[Nat.add_assoc];exact hc _ _ hx
 ·cases hx
theorem F7.drop{w:World}{g o cap:Nat}{b:List Nat}{k:IntKind}(hc:∀i x:Nat,b[i]?=some x->w.cell? ⟨g,o+i,none⟩=some (.int k x)) (h1:b.length<=cap) (h2:cap<=maxLen) (n:Nat) (hn:n<=b.length):
  F7 k w (.slice (some ⟨g,o+n,none⟩) (b.length-n) (cap-n)) (b.drop n):=by
 refine⟨some ⟨g,o+n,none⟩,cap-n,by simp,by simp;omega,by omega,(fun h=>by cases h),fun _=>⟨g,o+n,rfl,fun i x hx=>?_⟩⟩;rw[List.getElem?_drop] at hx;have:=hc _ _ hx;rw[Nat.add_assoc];exact this
theorem own_empty(w:World)(e:TypeId)(size:Nat):O1 (w.alloc (.cells #[] e)) w.heap.size e size (.slice (some ⟨w.heap.size,0,none⟩) 0 0) 0 []:=
 ⟨by simp,.inr ⟨w.heap.size,0,0,#[],rfl,Nat.le_refl _,heap_alloc_new w _,Nat.le_refl _,Nat.zero_le _,by simp,by simp⟩⟩
theorem O1.clip{w:World}{B:Nat}{e:TypeId}{size:Nat}{ao:Option Addr}{n cap:Nat}{xs:List Value}(h:O1 w B e size (.slice ao n cap) n xs):O1 w B e size (.slice ao n n) n xs:=by
 obtain⟨h1,h2⟩:=h;refine⟨h1,?_⟩
 rcases h2 with⟨h2,h3⟩|⟨g,o,c,cur,h3,h4,h5,h6,h7,h8,h9⟩
 ·cases h2
  exact .inl ⟨rfl,rfl⟩
 ·cases h3
  exact .inr ⟨g,o,n,cur,rfl,h4,h5,Nat.le_refl _,Nat.le_trans h6 h7,Nat.le_trans (Nat.add_le_add_left (Nat.mul_le_mul_right _ h6) _) h8,h9⟩
theorem Zb{P:Program}{w:World}{ops:Array Oper}{rest:List Oper}{o:Oper}{a:Act}{Q:Exit->Act->World->Prop}(hgd:o.guard=none)(s x:Operand)(t k:TypeId)
  (ho:o.op=.call {callee:=.builtin .append,args:=#[s,x],argTypes:=#[t,k]}) (v y r:Value) (w':World) (hs:a.eval s=v) (hy:a.eval x=y) (hr:∀ty,(Builtin.append_ #[t,k] ty #[v,y]).run P w=.ok r w')
  (h:wpList P ops Q rest (a.put o.dst r) w'):wpList P ops Q (o::rest) a w:=by
 refine wpList_plain hgd fun K hK=>?_
 unfold Oper.wp execOp;simp only[ho,resolve,invoke,builtin,Sem.run_bind,Sem.run_pure,Result.andThen_ok,List.map_toArray,List.map_cons,List.map_nil,hs,hy,hr];exact hK _ _ h
def Parts(w:World)(g o:Nat)(vs:List Value)(ls:List (List Nat)):Prop:=vs.length=ls.length/\∀i,i<ls.length->∃v l,vs[i]?=some v/\ls[i]?=some l/\w.cell? ⟨g,o+i,none⟩=some v/\F7 .u8 w v l
theorem Qy{ls:List (List Nat)}{i:Nat}{l:List Nat}(h:ls[i]?=some l):(ls.take (i+1)).flatten=(ls.take i).flatten++l:=by
 rw[List.take_add_one,h]
 simp
theorem Zg(ls:List (List Nat))(i:Nat):(ls.take i).flatten.length<=ls.flatten.length:=by
 have h:=congrArg (fun x=>x.flatten.length) (List.take_append_drop i ls);simp only[List.flatten_append,List.length_append] at h;omega
theorem sizeB(w:World):(sizeOf (prog.elem 138)).run prog w=.ok 1 w:=by
 have:prog.elem 138=5:=by kernel_rfl
 rw[this]
 go_simp
theorem dQ:prog.underlying 138=some (.slice (prog.elem 138)):=by kernel_rfl
theorem bY{w:World}{v:Value}{l:List Nat}(hk:F7 .u8 w v l)(n:Nat)(hn:n<=l.length):
  ∃a c,(∀W,(Instr.sliceAt 138 v (some (.int .i64 n)) none none).run prog W=.ok (.slice a (l.length-n) c) W)/\F7 .u8 w (.slice a (l.length-n) c) (l.drop n):=by
 obtain⟨ao,cap,rfl,h1,h2,h3,h4⟩:=hk
 have hrun:∀W,(Instr.sliceAt 138 (.slice ao l.length cap) (some (.int .i64 n)) none none).run prog W=.ok (sliced ao n l.length cap 1) W:=fun W=>by
  rw[run_sliceAt_slice _ _ _ _ _ _ dQ,run_slice_l _ _ _ _ _ dQ .i64 n (by omega) (by omega),sizeB]
  simp
 unfold sliced at hrun;refine⟨_,_,hrun,?_⟩;have hl:(l.drop n).length=l.length-n:=by simp
 refine⟨_,_,by rw[hl],by rw[hl];omega,by omega,fun hno=>?_,fun h0=>?_⟩
 ·split at hno
  ·omega
  ·have:ao=none:=by cases ao with|none=>rfl|some _=>cases hno
   have:=h3 this;omega
 ·rw[hl] at h0;obtain⟨b,o,rfl,hc⟩:=h4 (by omega);rw[if_neg (by omega)];refine⟨b,o+n,by simp[Addr.add_lit],fun i x hx=>?_⟩;rw[List.getElem?_drop] at hx;rw[Nat.add_assoc];exact hc _ _ hx
def bes(k:Nat)(ws:List Nat):List Nat:=ws.flatMap (be k)
theorem bes_take(k:Nat)(ws:List Nat)(i x:Nat)(h:ws[i]?=some x):bes k (ws.take (i+1))=bes k (ws.take i)++be k x:=by
 unfold bes;rw[List.take_add_one,h]
 simp
theorem oZ(k:Nat)(ws:List Nat):(bes k ws).length=k*ws.length:=by
 unfold bes
 induction ws with
 |nil=>rfl
 |cons w ws ih=>rw[List.flatMap_cons,List.length_append,ih,jI,List.length_cons,Nat.mul_succ];omega
theorem QE{k x j:Nat}(hj:j<k):(be k x).take (j+1)=(be k x).take j++[x/256^(k-1-j)%256]:=by
 rw[List.take_add_one,Jd (by rw[jI];exact hj),rZ k x j hj]
 rfl
theorem EH(x e:Nat):(x:Int)/2^(8*e)%256=((x/256^e%256:Nat):Int):=by
 rw[show(256:Nat)^e=2^(8*e) by rw[Nat.pow_mul]]
 simp
theorem put_any{b ws:List Nat}{v vs:Value}{k:Nat}(w:World)(hv:F7 .u8 w v b)(hk:k<=8)(hvs:F7 .u64 w vs ws)(hne:0<ws.length)(hsz:b.length+k*ws.length<=140737488355328):
  Calls prog 228 #[v,.int .i64 k,vs] w fun e w'=>∃v',e=.returned v'/\w'.ownsRow w.heap.size 5 1 v' (b.length+k*ws.length) (jo .u8 (b++bes k ws))/\Below w.heap.size w w':=by
 obtain⟨i0,hi,hz0,hz1,hz2⟩:=info_parts KF;obtain⟨ao,cap,rfl,hc1,hc2,hc3,hc4⟩:=hv;obtain⟨aw,capw,rfl,hw1,hw2,hw3,hw4⟩:=hvs;obtain⟨g,o,rfl,hw5⟩:=hw4 hne;have hm1:=hc2;have hm2:=hw2;unfold maxLen at hm1 hm2;have HC:=jh hc4;have HW:=jh hw5;have HI:=jh hi
 have hmk:∀w,(Instr.makeSlice 138 (.int .i64 b.length) (.int .i64 ((b.length:Int)+(k:Int)*(ws.length:Int)))).run prog w=.ok (.slice (some ⟨w.heap.size,0,none⟩) b.length (b.length+k*ws.length)) (w.alloc (.cells (List.replicate (b.length+k*ws.length) (Value.int .u8 0)).toArray 5)):=by
  intro w;have hkw:(k:Int)*(ws.length:Int)=((k*ws.length:Nat):Int):=by simp
  have e:=run_make (P:=prog) w 138 5 i0 (.int .u8 0) underlying138 hi hz0 .i64 .i64 b.length ((b.length:Int)+(k:Int)*(ws.length:Int)) (by omega) (by rw[hkw];omega) (by rw[hz2,hkw];omega) (by rw[hkw];omega);rw[e,hz1,hkw,Int.toNat_natCast,show((b.length:Int)+((k*ws.length:Nat):Int)).toNat=b.length+k*ws.length by omega,SL]
 have HPOS:=jh (show∀t,0<(jo .u8 b).length->(some ⟨w.heap.size,0,none⟩:Option Addr)=some ⟨w.heap.size,0,none⟩/\∃ad,ao=some ad/\∀(j:Nat) (v:Value),(jo .u8 b)[j]?=some v->(w.alloc t).cell? (ad.add j)=some v from by
  intro t h0;rw[js] at h0;obtain⟨bb,oo,hao,hcell⟩:=HC.out h0;refine⟨rfl,_,hao,fun j v hj=>?_⟩;rw[qC] at hj;obtain⟨x,hx,rfl⟩:=Option.map_eq_some_iff.1 hj;have:=hcell j x hx;rw[Addr.add_lit,World.cell?_alloc_lt w _ ⟨bb,oo+j,none⟩ (World.block_lt_of_cell? (a:=⟨bb,oo+j,none⟩) _ this)]
  exact this)
 clear hc4 hw4 hw5 hi hw3
 go_enter func228,ntmps228
 go_wp2_with (refine wpList_copy_splice rfl (.tmp 21) (.tmp 22) 138 138 rfl 5 underlying138 (by kernel_rfl) (some ⟨w.heap.size,0,none⟩) ao b.length (b.length+k*ws.length) b.length cap rfl rfl w.heap.size 0 (List.replicate (b.length+k*ws.length) (Value.int .u8 0)) 5 (heap_alloc_new w _) (jo .u8 b) (by simp[js]) (HPOS.out _) (by simp[js]) (Jx _ _) w.heap.size w (ja) (Nat.le_refl _) ?_;intro w1 hrow hbel)
 have HOWN:=jh (bV (base:=w.heap.size) (Nat.le_refl _) (show b.length<=b.length+k*ws.length by omega) (by unfold maxLen;omega) hrow.out);clear hrow;have HBEL:=jh hbel;clear hbel
 go_loopw [7,26] (fun v i wr=>∃i':Nat,i'<=ws.length/\i=.int .i64 i'/\wr.ownsRow w.heap.size 5 1 v (b.length+k*i') (jo .u8 (b++bes k (ws.take i')))/\Below w.heap.size w wr) (fun _ i _=>ws.length-(intOf i).toNat)
 case atStart=>exact⟨0,Nat.zero_le _,rfl,by simpa[bes] using HOWN.out,HBEL.out⟩
 case round=>
  obtain⟨i,hi,rfl,hown,hbel⟩:=hrel;have HO:=jh hown;have HB:=jh hbel;clear hown hbel HOWN HBEL
  by_cases hlt:i<ws.length
  ·obtain⟨x,hx⟩:∃x,ws[i]?=some x:=⟨_,List.getElem?_eq_getElem hlt⟩;have hcell:=HW.out i x hx;have hcell2:=HB.out.cell (p:=⟨g,o+i,none⟩) (World.block_lt_of_cell? (a:=⟨g,o+i,none⟩) _ hcell);rw[hcell] at hcell2;have HX:=jh hx;clear hcell hx;obtain⟨wo,rfl⟩:∃wo:World,wo=wr:=⟨_,rfl⟩
   go_wp2
   go_loopw [7,31] (fun v j wr=>∃j':Nat,j'<=k/\j=.int .i64 j'/\wr.ownsRow w.heap.size 5 1 v (b.length+k*i+j') (jo .u8 (b++bes k (ws.take i)++(be k x).take j'))/\Below w.heap.size w wr) (fun _ j _=>k-(intOf j).toNat)
   case atStart=>exact⟨0,Nat.zero_le _,rfl,by simpa using HO.out,HB.out⟩
   case round=>
    obtain⟨j,hj,rfl,hown,hbel⟩:=hrel;have HP:=jh hown;have HC2:=jh hbel;clear hown hbel hcell2
    by_cases hjk:j<k
    ·have hmul:b.length+k*i+j+1<=b.length+k*ws.length:=by
      have:=Nat.mul_le_mul_left k (show i+1<=ws.length from hlt);rw[Nat.mul_succ] at this;omega
     have HM:=jh (show b.length+k*i+j+1<=140737488355328 by omega);clear hmul
     go_wp2_with (at_builtin;refine wpList_append_own _ rfl _ _ 138 rfl w.heap.size 5 i0 (.int .u8 0) 1 1 underlying138 HI.out hz0 hz1 hz2 rfl (by decide) _ _ _ rfl (HP.out.alloc _) ⟨wr.heap.size,0,none⟩ 1 1 [.int .u8 ((x:Int)/2^(8*(k-1-j))%256)] rfl rfl (bH _ _ _) (one_one _) (by have:=HM.out;unfold maxLen;omega) (by have:=HM.out;omega) (by have:=HC2.out.size;simp only[World.size_alloc];omega) ?_;intro v' w2 hown2 hgrow _;have D9:=jh hown2;have HG2:=jh hgrow;clear hown2 hgrow)
     go_roundw
     case rel=>exact⟨j+1,by omega,by go_num,by
      rw[QE hjk,<-List.append_assoc,qp,show jo .u8 [x/256^(k-1-j)%256]=[.int .u8 ((x:Int)/2^(8*(k-1-j))%256)] by rw[EH];rfl]
      exact D9.out,(HC2.out.alloc HC2.out.size _).grown HG2.out (by have:=HC2.out.size;simp only[World.size_alloc];omega) (fun q hq=>(HP.out.lt q hq).1)⟩
     case measure=>simp[intOf];omega
    ·obtain rfl:j=k:=by omega
     go_wp2
     go_roundw
     case rel=>exact⟨i+1,by omega,by go_num,by
      have h1:=HP.out;rw[show(be j x).take j=be j x from List.take_of_length_le (by rw[jI];exact Nat.le_refl _),List.append_assoc,<-bes_take j ws i x HX.out] at h1;rw[show b.length+j*(i+1)=b.length+j*i+j by rw[Nat.mul_succ];omega]
      exact h1,HC2.out⟩
     case measure=>simp[intOf];omega
  ·obtain rfl:i=ws.length:=by omega
   go_wp2
   go_ret
   exact⟨_,rfl,by have h1:=HO.out;rw[List.take_length] at h1;exact h1,HB.out⟩
theorem put_own{b ws:List Nat}{v vs:Value}{k:Nat}(ki:Int)(hki:ki=k)(w:World)(hv:F7 .u8 w v b)(hk:k<=8)(hvs:F7 .u64 w vs ws)(hne:0<ws.length)(hsz:b.length+k*ws.length<=140737488355328):
  Calls prog 228 #[v,.int .i64 ki,vs] w fun e w'=>∃v',e=.returned v'/\Own w' w.heap.size v' (b++bes k ws)/\Below w.heap.size w w':=by
 subst hki;exact(put_any w hv hk hvs hne hsz).mono fun _ _ ⟨v',he,ho,hb⟩=>⟨v',he,by unfold Own;rw[List.length_append,oZ];exact O1.of_row ho,hb⟩
def many(bytes:Int):Nat:=(min 8 (max 0 bytes)).toNat
theorem many_le(bytes:Int):many bytes<=8:=by unfold many;omega
theorem kK{b:List Nat}{v:Value}(w:World)(hv:F7 .u8 w v b)(n:Nat)(bytes:Int)(h0: -9223372036854775808<=bytes)(h1:bytes<=9223372036854775807)(hsz:b.length+8<=140737488355328):
  Calls prog 232 #[v,.int .u64 n,.int .i64 bytes] w fun e w'=>∃v',e=.returned v'/\Own w' w.heap.size v' (b++be (many bytes) n)/\Below w.heap.size w w':=by
 have HV:=jh hv;have hm:=many_le bytes
 have HW:=jh (show∀t,F7 .u64 (w.alloc (.cells #[.int .u64 n] t)) (.slice (some ⟨w.heap.size,0,none⟩) 1 1) [n] from fun t=>⟨_,_,rfl,Nat.le_refl _,by unfold maxLen;omega,(fun h=>by cases h),fun _=>⟨_,_,rfl,fun i x hx=>by
  cases i with
  |zero=>simp at hx;subst hx;simp
  |succ i=>simp at hx⟩⟩)
 have HP:=jh (fun t ki hki=>put_own (k:=many bytes) ki hki _ (HV.out.later ((Below.refl _ w).alloc (Nat.le_refl _) (.cells #[.int .u64 n] t))) hm (HW.out t) (by simp) (by simp;omega));clear hv;have hc:bytes<=0∨(0<bytes/\bytes<8)∨8<=bytes:=by omega
 have HF:=jh (fun(m:Nat) (v':Value) (w1:World) (t:TypeId) (ho:Own w1 (w.alloc (.cells #[.int .u64 n] t)).heap.size v' (b++bes m [n])) (hb:Below (w.alloc (.cells #[.int .u64 n] t)).heap.size (w.alloc (.cells #[.int .u64 n] t)) w1)=>
  (show Own w1 w.heap.size v' (b++be m n)/\Below w.heap.size w w1 from
   ⟨by have h2:=ho.base (B':=w.heap.size) (by simp);simpa[bes] using h2,((Below.refl _ w).alloc (Nat.le_refl _) _).trans (hb.mono (by simp))⟩))
 rcases hc with hc|⟨hc1,hc2⟩|hc
 ·have e0:many bytes=0:=by unfold many;omega
  rw[e0] at HP⊢;clear HV HW hm e0
  go_enter func232,ntmps232
  go_wp2_with (go_at_call 228;refine(HP.out _ 0 rfl).mono ?_;rintro e w1 ⟨v',rfl,ho,hb⟩;have HQ:=jh (HF.out _ _ _ _ ho hb);clear ho hb)
  go_ret
  exact⟨_,rfl,HQ.out⟩
 ·obtain⟨m,rfl⟩:∃m:Nat,bytes=m:=⟨bytes.toNat,by omega⟩;have e0:many m=m:=by unfold many;omega
  rw[e0] at HP⊢;clear HV HW hm e0
  go_enter func232,ntmps232
  go_wp2_with (go_at_call 228;refine(HP.out _ m rfl).mono ?_;rintro e w1 ⟨v',rfl,ho,hb⟩;have HQ:=jh (HF.out _ _ _ _ ho hb);clear ho hb)
  go_ret
  exact⟨_,rfl,HQ.out⟩
 ·have e0:many bytes=8:=by unfold many;omega
  rw[e0] at HP⊢;clear HV HW hm e0
  go_enter func232,ntmps232
  go_wp2_with (go_at_call 228;refine(HP.out _ 8 rfl).mono ?_;rintro e w1 ⟨v',rfl,ho,hb⟩;have HQ:=jh (HF.out _ _ _ _ ho hb);clear ho hb)
  go_ret
  exact⟨_,rfl,HQ.out⟩
open Go.ChangeShapes Go.WideShapes Go.ChangeAt Go.RowKit
theorem VY(w:World)(b off:Nat)(u:Value)(c:Array Value)(t:TypeId)(fr:Nat×Nat)(h:w.heap[b]?=some (.cells c t fr)):(w.setCell ⟨b,off,none⟩ u).heap[b]?=some (.cells (c.setIfInBounds off u) t fr):=by
 simp only[World.setCell];rw[Array.getElem?_modify]
 simp[h]
theorem O1.put9{w:World}{base:Nat}{e:TypeId}{size n:Nat}{xs:List Value}{g o cap:Nat}(h:O1 w base e size (.slice (some ⟨g,o,none⟩) n cap) n xs){j:Nat}(u:Value):O1 (w.setCell ⟨g,o+j,none⟩ u) base e size (.slice (some ⟨g,o,none⟩) n cap) n (xs.set j u):=by
 obtain⟨h1,h2⟩:=h
 rcases h2 with⟨h2,_⟩|⟨g',o',cap',cur,h3,h4,h5,h6,h7,h8,h9⟩
 ·cases h2
 ·cases h3
  refine⟨by rw[List.length_set];exact h1,.inr ⟨g,o,cap,_,rfl,h4,VY w g (o+j) u cur e (0,0) h5,h6,h7,by rw[Array.size_setIfInBounds];exact h8,?_⟩⟩;rw[Array.toList_setIfInBounds,List.drop_set,if_neg (by omega),show o+j-o=j by omega,List.take_set,h9]
theorem Jq(w:World)(g off:Nat)(u:Value):w.grownBy (w.setCell ⟨g,off,none⟩ u) (some g):=⟨rfl,rfl,rfl,by simp[World.setCell],fun k _ hk=>Below.heap_setCell _ _ _ k (fun e=>hk (by rw[e]))⟩
theorem O1.cell9{w:World}{base:Nat}{e:TypeId}{size n:Nat}{xs:List Value}{g o cap j:Nat}{v:Value}(h:O1 w base e size (.slice (some ⟨g,o,none⟩) n cap) n xs)(hv:xs[j]?=some v):w.cell? ⟨g,o+j,none⟩=some v:=by
 have h9:=h.cells j v hv;rw[Addr.add_lit] at h9;exact h9
theorem O1.thaw9{w:World}{base:Nat}{e:TypeId}{size n:Nat}{xs:List Value}{g o cap:Nat}(h:O1 w base e size (.slice (some ⟨g,o,none⟩) n cap) n xs)(j:Nat):w.frozen? ⟨g,j,none⟩=false:=oL h j
theorem XQ(w:World)(base:Nat):O1 w base 5 1 (.slice none 0 0) 0 []:=⟨rfl,.inl ⟨rfl,rfl⟩⟩
theorem NG(w:World)(z:Int)(t:TypeId):ZT (w.alloc (.cells #[.int .u8 z] t)) 1 (.slice (some ⟨w.heap.size,0,none⟩) 1 1) 1 [.int .u8 z]:=by
 refine⟨_,1,rfl,rfl,one_one _,(fun h=>by cases h),fun ad had j u hu=>?_⟩
 cases had
 exact bH w _ t j u hu
def Four(w:World)(b z0 z1 z2 z3:Nat):Prop:=w.cell? ⟨b,0,none⟩=some (.int .u64 z0)/\w.cell? ⟨b,1,none⟩=some (.int .u64 z1)/\w.cell? ⟨b,2,none⟩=some (.int .u64 z2)/\w.cell? ⟨b,3,none⟩=some (.int .u64 z3)
theorem Four.later{w w':World}{b z0 z1 z2 z3:Nat}(h:Four w b z0 z1 z2 z3)(hb:Below w.heap.size w w'):Four w' b z0 z1 z2 z3:=⟨jj h.1 hb,jj h.2.1 hb,jj h.2.2.1 hb,jj h.2.2.2 hb⟩
theorem Four.new(w:World)(z0 z1 z2 z3:Nat)(t:TypeId):Four (w.alloc (.cells #[.int .u64 z0,.int .u64 z1,.int .u64 z2,.int .u64 z3] t)) w.heap.size z0 z1 z2 z3:=by
 refine⟨?_,?_,?_,?_⟩<;>simp
def TL(n:Nat):Nat->List Nat
 |0=>[]
 |i+1=>TL n i++[n/256^i%256]
theorem YI(n:Nat):∀i,(TL n i).length=i
 |0=>rfl
 |i+1=>by rw[TL,List.length_append,YI n i];rfl
theorem pV(n:Nat):∀{i p:Nat},p<i->(TL n i)[p]?=some (n/256^p%256)
 |i+1,p,h=>by
  have hl:=YI n i
  by_cases hp:p<i
  ·rw[TL,List.getElem?_append_left (by omega),pV n hp]
  ·obtain rfl:p=i:=by omega
   rw[TL,List.getElem?_append_right (by omega),hl]
   simp
theorem div_next(n i:Nat):n/256^i/256=n/256^(i+1):=by rw[Nat.div_div_eq_div_mul,Nat.pow_succ]
theorem RPut_M{b:List Nat}{a:Option Addr}{n0 c:Nat}(w:World)(E0:Hid (b.length=n0))(hv:F7 .u8 w (.slice a n0 c) b)(n:Nat)(hn:n<18446744073709551616)(bytes:Int)(mx M:Nat)(hM8:M<=8)(hsz:n0+8<=140737488355328)
  (hmx:∀w,(Builtin.max_ #[3,3] 3 #[.int .i64 0,.int .i64 bytes]).run prog w=.ok (.int .i64 mx) w) (hmn:∀w,(Builtin.min_ #[3,3] 3 #[.int .i64 8,.int .i64 mx]).run prog w=.ok (.int .i64 M) w):
  Calls prog 247 #[.slice a n0 c,.int .u64 n,.int .i64 bytes] w fun e w'=>∃a' c',e=.returned (.slice a' (n0+M) c')/\O1 w' w.heap.size 5 1 (.slice a' (n0+M) c') (n0+M) (jo .u8 (b++be M n))/\Below w.heap.size w w':=by
 obtain⟨i0,hi,hz0,hz1,hz2⟩:=info_parts KF;have HI:=jh hi;have HE:=jh (XQ w w.heap.size);have hsrc:=hv.src;rw[E0.out] at hsrc;have HS:=jh hsrc;have hn64:n<=18446744073709551615:=by omega
 clear hi hv hsrc
 go_enter func247,ntmps247
 go_wp2_with (at_builtin;refine jX rfl (.const (.slice none 0 0)) (.tmp 12) 138 rfl w.heap.size 5 i0 (.int .u8 0) 1 1 underlying138 HI.out hz0 hz1 hz2 rfl (.slice none 0 0) 0 [] rfl HE.out (.slice a n0 c) n0 (jo .u8 b) rfl HS.out (by unfold maxLen;omega) (by omega) (Nat.le_refl _) ?_
              intro v7 w1 ho hg hl;obtain⟨a7,c7,rfl⟩:=ho.sl;have HO:=jh (show O1 w1 w.heap.size 5 1 (.slice a7 (0+n0) c7) (0+n0) (jo .u8 b) from ho);have HB1:=jh ((Below.refl w.heap.size w).grown hg (Nat.le_refl _) (fun k hk=>by simp[Value.ownBlock] at hk))
              clear ho hg hl)
 have ho7:=HO.out;rw[Nat.zero_add] at ho7;have HO7:=jh ho7;have H7B:=jh (fun g hg=>(O1.lt ho7 g hg).2);have hs01:=HB1.out.size;clear ho7 HO HE HS
 go_loopw [1,9,10] (fun u v i wr=>∃i':Nat,i'<=M/\i=.int .i64 i'/\u=.int .u64 (n/256^i':Nat)/\O1 wr w1.heap.size 5 1 v i' (jo .u8 (TL n i'))/\Below w1.heap.size w1 wr) (fun _ _ i _=>M-(intOf i).toNat)
 case atStart=>exact⟨0,Nat.zero_le _,rfl,by simp,XQ _ _,U3⟩
 case round=>
  obtain⟨i,hi,rfl,rfl,hown,hbel⟩:=hrel;obtain⟨wo,rfl⟩:∃wo:World,wo=wr:=⟨_,rfl⟩;obtain⟨a9,c9,rfl⟩:=hown.sl;have HP:=jh hown;have HB:=jh hbel;have hs1o:=hbel.size;clear hown hbel
  by_cases hlt:i<M
  ·have hdl:n/256^i<=n:=Nat.div_le_self _ _;have HDN:=jh (div_next n i);have HBY:=jh (show TL n (i+1)=TL n i++[n/256^i%256] from rfl);obtain⟨q,hq⟩:=je (n/256^i);rw[<-hq] at HDN HBY hdl⊢;clear hq hmx hmn
   go_wp2_with (at_builtin;refine jX rfl (.tmp 22) (.tmp 26) 138 rfl w1.heap.size 5 i0 (.int .u8 0) 1 1 underlying138 HI.out hz0 hz1 hz2 rfl (.slice a9 i c9) i (jo .u8 (TL n i)) rfl (O1.later HP.out (ja)) (.slice (some ⟨wo.heap.size,0,none⟩) 1 1) 1 [.int .u8 ((q:Int)%256)] rfl (NG _ _ _) (by unfold maxLen;omega) (by omega) (by simp;omega) ?_
                intro v3 w3 ho3 hg3 hl3;have UJ:=jh ho3;have mX:=jh hg3
                clear ho3 hg3 hl3)
   go_roundw
   case rel=>exact⟨i+1,by omega,by go_num,by rw[<-HDN.out];exact congrArg (Value.int .u64) (by simp),by
    rw[HBY.out,qp,show jo .u8 [q%256]=[.int .u8 ((q:Int)%256)] by simp[jo]]
    exact UJ.out,(HB.out.alloc hs1o _).grown mX.out (by simp;omega) (fun g hg=>(O1.lt HP.out g hg).1)⟩
   case measure=>simp[intOf];omega
  ·obtain rfl:i=M:=by omega
   clear hlt hmx hmn;obtain⟨q0,hq0⟩:∃q:Nat,q=n/256^i:=⟨_,rfl⟩;rw[<-hq0];clear hq0;have oC:=jh (O1.later (HO7.out) HB.out);have yC:=jh (fun g hg=>O1.lt HP.out g hg);have HBO:=jh (qe HB1.out HB.out);have hapart:∀g,(Value.slice a9 i c9).ownBlock=some g->(Value.slice a7 n0 c7).ownBlock≠some g:=fun g hg e=>by have:=yC.out g hg;have:=H7B.out g e;omega
   have HAP:=jh hapart;clear hapart
   go_wp2
   go_loopw [7,11] (fun v j wr=>∃j':Nat,j'<=i/\j=.int .i64 ((i:Int)-1-j')/\O1 wr w.heap.size 5 1 v (n0+j') (jo .u8 (b++(be i n).take j'))/\O1 wr w1.heap.size 5 1 (.slice a9 i c9) i (jo .u8 (TL n i))/\(∀g,(Value.slice a9 i c9).ownBlock=some g->v.ownBlock≠some g)/\Below w.heap.size w wr) (fun _ j _=>(intOf j+1).toNat)
   case atStart=>exact⟨0,Nat.zero_le _,by go_num,by simpa using oC.out,HP.out,HAP.out,HBO.out⟩
   case round=>
    obtain⟨j,hj,rfl,hout,hlow,hap,hbl⟩:=hrel;obtain⟨wq,rfl⟩:∃wq:World,wq=wr:=⟨_,rfl⟩;obtain⟨a8,c8,rfl⟩:=hout.sl;have HOUT:=jh hout;have HLOW:=jh hlow;have HAPP:=jh hap;have UH:=jh hbl;have hsl:=hbl.size;clear hap hbl hout
    by_cases hlt:j<i
    ·have hin:i-1-j<i:=by omega
     have hidx:(i:Int)-1-j=((i-1-j:Nat):Int):=by omega
     have hbyte:=pV n hin;have hh:=hlow.2
     rcases hh with⟨_,hh⟩|⟨g,o,cap,cur,hh,hg1,hg2,hg3,hg4,_⟩
     ·omega
     cases hh
     have hc:=O1.cells hlow (i-1-j) (.int .u8 ((n/256^(i-1-j)%256:Nat):Int)) (by rw[qC,hbyte];rfl);rw[Addr.add_lit] at hc;have hltg:g<wq.heap.size:=(J6.1 hg2).1;have VT:=jh (QE (k:=i) (x:=n) hlt);obtain⟨q,hq⟩:=je (n/256^(i-1-j)%256);rw[<-hq] at hc VT;rw[hidx];unfold maxLen at hg4;obtain⟨p,hp⟩:=je (i-1-j);rw[<-hp] at hc hin⊢;have hpi:p+j+1=i:=by omega
     clear hq hbyte hlow hg2 hidx hp
     go_wp2_with (at_builtin;refine jX rfl (.tmp 36) (.tmp 41) 138 rfl w.heap.size 5 i0 (.int .u8 0) 1 1 underlying138 HI.out hz0 hz1 hz2 rfl (.slice a8 (n0+j) c8) (n0+j) (jo .u8 (b++(be i n).take j)) rfl (O1.later HOUT.out (ja)) (.slice (some ⟨wq.heap.size,0,none⟩) 1 1) 1 [.int .u8 (q:Int)] rfl (NG _ _ _) (by unfold maxLen;omega) (by omega) (by simp;omega) ?_
                  intro v3 w3 ho3 hg3 hl3;have UJ:=jh ho3;have mX:=jh hg3;have HL3:=jh hl3
                  clear ho3 hg3 hl3)
     go_roundw
     case rel=>exact⟨j+1,by omega,by go_num,by
      rw[VT.out,<-List.append_assoc,qp,show jo .u8 [q]=[.int .u8 (q:Int)] from rfl]
      exact UJ.out,O1.kept (O1.later HLOW.out (ja)) mX.out (.inr (fun e=>HAPP.out g rfl (by rw[<-e];rfl))),fun g9 S9=>by
       cases S9
       exact mG HL3.out (HAPP.out g rfl) (by simp;omega),(UH.out.alloc hsl _).grown mX.out (by simp;omega) (fun k hk=>(O1.lt HOUT.out k hk).1)⟩
     case measure=>simp[intOf]
    ·obtain rfl:j=i:=by omega
     clear hlt hlow
     go_wp2
     go_ret
     exact⟨_,_,rfl,by have h:=HOUT.out;rwa [List.take_of_length_le (by rw[jI];exact Nat.le_refl _)] at h,UH.out⟩
theorem NH{b:List Nat}{v:Value}(w:World)(hv:F7 .u8 w v b)(n:Nat)(hn:n<18446744073709551616)(bytes:Int)(hsz:b.length+8<=140737488355328):
  Calls prog 247 #[v,.int .u64 n,.int .i64 bytes] w fun e w'=>∃v',e=.returned v'/\Own w' w.heap.size v' (b++be (many bytes) n)/\Below w.heap.size w w':=by
 have hv':=hv;obtain⟨a,c,rfl,_⟩:=hv'
 have hmx:∃mx:Nat,(∀w,(Builtin.max_ #[3,3] 3 #[.int .i64 0,.int .i64 bytes]).run prog w=.ok (.int .i64 mx) w)/\mx=(max 0 bytes).toNat:=by
  refine⟨_,fun w=>?_,rfl⟩;rw[run_max_int2,show(if bytes>0 then bytes else 0)=(((max 0 bytes).toNat:Nat):Int) from by split<;>omega]
 obtain⟨mx,hmx,emx⟩:=hmx
 have hmn:∀w,(Builtin.min_ #[3,3] 3 #[.int .i64 8,.int .i64 mx]).run prog w=.ok (.int .i64 (many bytes:Nat)) w:=by
  intro w;have e:many bytes=min 8 mx:=by unfold many;omega
  rw[e,run_min_int2,show(if(mx:Int)<8 then(mx:Int) else 8)=((min 8 mx:Nat):Int) from by split<;>omega]
 refine(RPut_M w (jh rfl) hv n hn bytes mx (many bytes) (many_le bytes) hsz hmx hmn).mono ?_;rintro e w' ⟨a',c',he,ho,hb⟩;refine⟨_,he,?_,hb⟩;unfold Own;rw[show(b++be (many bytes) n).length=b.length+many bytes by rw[List.length_append,jI]];exact ho
theorem LP{w:World}{base n:Nat}{v:Value}{l:List Nat}(h:Own w base v l)(hn:l.length=n):∃a c,v=.slice a n c:=by
 unfold Own at h;rw[hn] at h;exact h.sl
theorem DT{b:List Nat}{v:Value}(w:World)(hv:F7 .u8 w v b)(x0 x1 x2 x3:Nat)(h0:x0<18446744073709551616)(h1:x1<18446744073709551616)(h2:x2<18446744073709551616)(h3:x3<18446744073709551616)(hsz:b.length+32<=140737488355328):
  Calls prog 199 #[v,.agg #[.int .u64 x0,.int .u64 x1,.int .u64 x2,.int .u64 x3]] w fun e w'=>∃v',e=.returned v'/\Own w' w.heap.size v' (b++(be 8 x3++(be 8 x2++(be 8 x1++be 8 x0))))/\Below w.heap.size w w':=by
 have HG:=jh (fun(l:List Nat) (n:Nat) (en:l.length=n) (v':Value) (w1:World) (hv':F7 .u8 w1 v' l) (x:Nat) (hx:x<18446744073709551616) (hl:n+8<=140737488355328)=>
  (show Calls prog 247 #[v',.int .u64 x,.int .i64 8] w1 fun e w'=>∃a' c' r,e=.returned (.slice a' (n+8) c')/\l++be 8 x=r/\Own w' w1.heap.size (.slice a' (n+8) c') r/\Below w1.heap.size w1 w' from(NH w1 hv' x hx 8 (by omega)).mono (by
   rintro _ w' ⟨v2,rfl,ho,hb⟩;obtain⟨a2,c2,rfl⟩:=LP (n:=n+8) ho (by rw[List.length_append,jI,en];rfl)
   exact⟨a2,c2,_,rfl,rfl,ho,hb⟩)))
 have HV:=jh hv;obtain⟨a,c,rfl,_⟩:=hv;obtain⟨n,en⟩:∃n,Hid (b.length=n):=⟨_,jh rfl⟩;rw[en.out] at HV hsz⊢
 go_enter func199,ntmps199
 go_wp2
 obtain⟨w1,e1⟩:∃w1:World,w1=w.alloc (.cells #[.int .u64 x0,.int .u64 x1,.int .u64 x2,.int .u64 x3] 24):=⟨_,rfl⟩;have hb1:=jc e1;have P1:=jh (show Four w1 w.heap.size x0 x1 x2 x3 by rw[e1];exact Four.new _ _ _ _ _ _);rw[<-e1];clear e1;have HB1:=jh hb1;have hs1:=hb1.size;have V1:=jh (HV.out.later hb1);clear hb1 HV;refine wp_loop_rounds 5 ?_;rw[rounds_succ];obtain⟨p0,p1,p2,p3⟩:=P1.out
 go_wp2_with fail
 clear p0 p1 p2 p3;refine(HG.out b (n) en.out _ w1 V1.out x3 h3 (by omega)).mono ?_;rintro _ w2 ⟨a2,c2,l2,rfl,el,ho,hb⟩;have O2:=jh ho;have HB2:=jh (qe HB1.out hb);have P2:=jh (P1.out.later hb);have E2:=jh el;have N2:=jh (show l2.length=n+8 by rw[<-el,List.length_append,jI,en.out]);have hs2:=hb.size;clear ho hb el HB1 P1 V1
 go_wp2_with fail
 rw[rounds_succ];obtain⟨p0,p1,p2,p3⟩:=P2.out
 go_wp2_with fail
 clear p0 p1 p2 p3;refine(HG.out l2 (n+8) N2.out _ w2 O2.out.at_ x2 h2 (by omega)).mono ?_;rintro _ w3 ⟨a3,c3,l3,rfl,el,ho,hb⟩;have O3:=jh ho;have HB3:=jh (qe HB2.out hb);have P3:=jh (P2.out.later hb);have E3:=jh el;have N3:=jh (show l3.length=n+8+8 by rw[<-el,List.length_append,jI,N2.out]);have hs3:=hb.size;clear ho hb el HB2 P2 O2
 go_wp2_with fail
 rw[rounds_succ];obtain⟨p0,p1,p2,p3⟩:=P3.out
 go_wp2_with fail
 clear p0 p1 p2 p3;refine(HG.out l3 (n+8+8) N3.out _ w3 O3.out.at_ x1 h1 (by omega)).mono ?_;rintro _ w4 ⟨a4,c4,l4,rfl,el,ho,hb⟩;have O4:=jh ho;have HB4:=jh (qe HB3.out hb);have P4:=jh (P3.out.later hb);have E4:=jh el;have N4:=jh (show l4.length=n+8+8+8 by rw[<-el,List.length_append,jI,N3.out]);have hs4:=hb.size;clear ho hb el HB3 P3 O3
 go_wp2_with fail
 rw[rounds_succ];obtain⟨p0,p1,p2,p3⟩:=P4.out
 go_wp2_with fail
 clear p0 p1 p2 p3;refine(HG.out l4 (n+8+8+8) N4.out _ w4 O4.out.at_ x0 h0 (by omega)).mono ?_;rintro _ w5 ⟨a5,c5,l5,rfl,el,ho,hb⟩;have O5:=jh ho;have dO:=jh (qe HB4.out hb);have P5:=jh (P4.out.later hb);have E5:=jh el;have N5:=jh (show l5.length=n+8+8+8+8 by rw[<-el,List.length_append,jI,N4.out]);have hs5:=hb.size;clear ho hb el HB4 P4 O4
 go_wp2_with fail
 rw[rounds_succ]
 go_wp2_with fail
 go_ret
 refine⟨_,rfl,?_,dO.out⟩;have h:=O5.out.base (B':=w.heap.size) (by omega);rw[<-E5.out,<-E4.out,<-E3.out,<-E2.out] at h
 simpa using h
theorem UF{b l:List Nat}{v u:Value}(w:World)(hv:F7 .u8 w v b)(hu:F7 .u8 w u l)(hsz:b.length+8+l.length<=140737488355328):
  Calls prog 250 #[v,u] w fun e w'=>∃v',e=.returned v'/\Own w' w.heap.size v' (b++(be 4 l.length++l))/\Below w.heap.size w w':=by
 have HP:=jh (NH w hv l.length (by omega) 4 (by omega));have HU:=jh hu;obtain⟨i0,hi,hz0,hz1,hz2⟩:=info_parts KF;have HI:=jh hi;have hu':=hu;obtain⟨au,cu,rfl,hcu⟩:=hu';obtain⟨n,en⟩:∃n,Hid (l.length=n):=⟨_,jh rfl⟩;have hn:n=l.length:=en.out.symm;rw[en.out] at HP HU hcu⊢;have hln:n<=9223372036854775807:=by omega
 have hln2:b.length+8+n<=140737488355328:=by omega
 clear hi hu hv hsz hn hcu
 go_enter func250,ntmps250
 go_wp2_with fail
 refine(HP.out).mono ?_;rintro _ w1 ⟨v1,rfl,ho,hb⟩;have hl1:(b++be (many 4) n).length=b.length+4:=by rw[List.length_append,jI];rfl
 obtain⟨a1,c1,rfl⟩:=LP ho hl1;have ho':O1 w1 w.heap.size 5 1 (.slice a1 (b.length+4) c1) (b.length+4) (jo .u8 (b++be 4 n)):=by unfold Own at ho;rw[hl1] at ho;exact ho
 have HO:=jh ho';have hs:=(HU.out.later hb).src;rw[en.out] at hs;have HS:=jh hs;have HB:=jh hb;have G7:=jh (fun g hg=>(O1.lt ho' g hg));have hs1:=hb.size;clear ho ho' hb hs hl1 HP HU
 go_wp2_with (at_builtin;refine JN rfl _ _ 138 rfl w.heap.size 5 i0 (.int .u8 0) 1 1 underlying138 HI.out hz0 hz1 hz2 rfl (.slice a1 (b.length+4) c1) (b.length+4) (jo .u8 (b++be 4 n)) rfl HO.out (.slice au n cu) n (jo .u8 l) rfl HS.out (by unfold maxLen;omega) (by omega) hs1 ?_;intro v' w2 ho hg;have D9:=jh ho;have HGr:=jh hg;clear ho hg)
 obtain⟨a7,c7,rfl⟩:=D9.out.sl
 go_ret
 exact⟨_,rfl,by have h1:=D9.out;unfold Own;rw[show(b++(be 4 n++l)).length=b.length+4+n by simp[jI,en.out];omega,<-List.append_assoc,qp];exact h1,HB.out.grown HGr.out hs1 (fun k hk=>(G7.out k hk).1)⟩
theorem kat_one{w:World}{b x:Nat}(h:w.cell? ⟨b,0,none⟩=some (.int .u8 x)):F7 .u8 w (.slice (some ⟨b,0,none⟩) 1 1) [x]:=
 ⟨_,1,rfl,Nat.le_refl _,by decide,(fun h=>by cases h),fun _=>⟨b,0,rfl,fun i y hy=>by
  have hl:=(List.getElem?_eq_some_iff.1 hy).1;obtain rfl:i=0:=by simp at hl;exact hl
  simp at hy
  subst hy
  exact h⟩⟩
def rep(n:Nat)(l:List Value):List Value:=(List.replicate n l).flatten
theorem ZI(n:Nat)(l:List Value):(rep n l).length=n*l.length:=by
 induction n with
 |zero=>simp[rep]
 |succ n ih=>unfold rep at ih⊢;rw[List.replicate_succ,List.flatten_cons,List.length_append,ih,Nat.succ_mul];omega
theorem rep_succ(n:Nat)(l:List Value):rep (n+1) l=rep n l++l:=by
 unfold rep;rw[List.replicate_succ',List.flatten_append]
 simp
theorem rep_get{l:List Value}{s:Nat}(hs:l.length=s){p q:Nat}{u:Value}(hq:l[q]?=some u):∀{n:Nat},p<n->(rep n l)[p*s+q]?=some u
 |n+1,h=>by
  have hql:=(List.getElem?_eq_some_iff.1 hq).1;have hl:=ZI n l;rw[hs] at hl
  by_cases hp:p<n
  ·have h1:p*s+q<n*s:=by have h2:(p+1)*s<=n*s:=Nat.mul_le_mul_right s hp;rw[Nat.succ_mul] at h2;omega
   rw[rep_succ,List.getElem?_append_left (by omega)];exact rep_get hs hq hp
  ·obtain rfl:p=n:=by omega
   rw[rep_succ,List.getElem?_append_right (by omega),hl,show p*s+q-p*s=q by omega];exact hq
def hld(M:Nat->Nat)(L G:Nat->Value):Nat->List Value
 |0=>[]
 |k+1=>hld M L G k++[L k,G k,.int .i64 (M k)]
theorem rG(M:Nat->Nat)(L G:Nat->Value):∀k,(hld M L G k).length=k*3
 |0=>rfl
 |k+1=>by rw[hld,List.length_append,rG M L G k];simp;omega
theorem hld_get(M:Nat->Nat)(L G:Nat->Value):∀{k i:Nat},i<k->(hld M L G k)[i*3]?=some (L i)/\(hld M L G k)[i*3+1]?=some (G i)/\(hld M L G k)[i*3+2]?=some (.int .i64 (M i))
 |k+1,i,h=>by
  have hl:=rG M L G k
  by_cases hik:i<k
  ·obtain⟨h1,h2,h3⟩:=hld_get M L G hik;rw[hld,List.getElem?_append_left (by omega),List.getElem?_append_left (by omega),List.getElem?_append_left (by omega)];exact⟨h1,h2,h3⟩
  ·obtain rfl:i=k:=by omega
   rw[hld,List.getElem?_append_right (by omega),List.getElem?_append_right (by omega),List.getElem?_append_right (by omega),hl]
   simp[show i*3+1-i*3=1 by omega,show i*3+2-i*3=2 by omega]
theorem DI{M:Nat->Nat}{L L' G G':Nat->Value}:∀{k:Nat},(∀i,i<k->L i=L' i/\G i=G' i)->hld M L G k=hld M L' G' k
 |0,_=>rfl
 |k+1,h=>by rw[hld,hld,DI (k:=k) fun i hi=>h i (by omega),(h k (by omega)).1,(h k (by omega)).2]
theorem hld_set(M:Nat->Nat)(L G:Nat->Value)(v:Value):∀{k i:Nat},i<k->(hld M L G k).set (i*3+1) v=hld M L (fun j=>if j=i then v else G j) k
 |k+1,i,h=>by
  have hl:=rG M L G k
  by_cases hik:i<k
  ·rw[hld,hld,List.set_append_left _ _ (by omega),hld_set M L G v hik]
   simp[show¬k=i by omega]
  ·obtain rfl:i=k:=by omega
   rw[hld,hld,List.set_append_right _ _ (by omega),hl,show i*3+1-i*3=1 by omega];rw[DI (k:=i) (L':=L) (G':=fun j=>if j=i then v else G j) fun j hj=>⟨rfl,by simp[show¬j=i by omega]⟩]
   simp
def WB(w:World)(B n:Nat)(F:Nat->Value):Prop:=
 w.cell? ⟨B,0,none⟩=some (.int .i64 n)/\(∀j,1<=j->j<18->w.cell? ⟨B,j,none⟩=some (F j))/\∀j,j<18->w.frozen? ⟨B,j,none⟩=false
theorem WB.lt{w:World}{B n:Nat}{F:Nat->Value}(h:WB w B n F):B<w.heap.size:=World.block_lt_of_cell? (a:=⟨B,0,none⟩) _ h.1
theorem WB.kept{w w':World}{B n:Nat}{F:Nat->Value}(h:WB w B n F)(hb:w'.heap[B]?=w.heap[B]?):WB w' B n F:=
 ⟨(World.cell?_of_block (w:=w) hb).trans h.1,fun j h1 h2=>(World.cell?_of_block (w:=w) hb).trans (h.2.1 j h1 h2),fun j hj=>(World.frozen?_of_block (w:=w) hb).trans (h.2.2 j hj)⟩
theorem WB.grown{w w':World}{B n:Nat}{F:Nat->Value}{row:Option Nat}(h:WB w B n F)(hg:w.grownBy w' row)(hr:row≠some B):WB w' B n F:=h.kept (hg.block B h.lt (fun e=>hr e.symm))
theorem WB.set0{w:World}{B n:Nat}{F:Nat->Value}(h:WB w B n F)(m:Nat):WB (w.setCell ⟨B,0,none⟩ (.int .i64 m)) B m F:=
 ⟨by rw[World.cell?_setCell_same (h:=h.1)],fun j h1 h2=>by rw[World.cell?_setCell_other _ _ _ _ (by intro h;injection h;omega),h.2.1 j h1 h2],fun j hj=>by simpa using h.2.2 j hj⟩
theorem WB.setF{w:World}{B n:Nat}{F:Nat->Value}(h:WB w B n F)(f:Nat)(hf:1<=f/\f<18)(v:Value):WB (w.setCell ⟨B,f,none⟩ v) B n (fun j=>if j=f then v else F j):=
 ⟨by rw[World.cell?_setCell_other _ _ _ _ (by intro h;injection h;omega),h.1],fun j h1 h2=>by
  show _=some (if j=f then v else F j)
  by_cases hj:j=f
  ·subst hj;rw[if_pos rfl,World.cell?_setCell_same (h:=h.2.1 j h1 h2)]
  ·rw[if_neg hj,World.cell?_setCell_other _ _ _ _ (by intro h;injection h;omega),h.2.1 j h1 h2],fun j hj=>by simpa using h.2.2 j hj⟩
theorem Qi(w:World)(a:Addr)(v:Value)(k:Nat)(h:k≠a.block):(w.setCell a v).heap[k]?=w.heap[k]?:=Below.heap_setCell w a v k h
theorem three_new(w:World)(x y z:Value)(t:TypeId):∀(j:Nat) (u:Value),[x,y,z][j]?=some u->(w.alloc (.cells #[x,y,z] t)).cell? ((⟨w.heap.size,0,none⟩:Addr).add j)=some u:=by
 intro j u h
 match j,h with
 |0,h=>simp at h;subst h;simp[Addr.add]
 |1,h=>simp at h;subst h;simp[Addr.add]
 |2,h=>simp at h;subst h;simp[Addr.add]
 |j+3,h=>simp at h
theorem src_three(w:World)(a:Option Addr)(n c:Nat)(z:Int)(t:TypeId):ZT (w.alloc (.cells #[.slice a n c,.slice none 0 0,.int .i64 z] t)) 3 (.slice (some ⟨w.heap.size,0,none⟩) 1 1) 1 [.slice a n c,.slice none 0 0,.int .i64 z]:=by
 refine⟨_,1,rfl,rfl,fun u hu=>?_,(fun h=>by cases h),fun ad had j u hu=>?_⟩
 ·simp only[List.mem_cons,List.not_mem_nil,or_false] at hu
  rcases hu with rfl|rfl|rfl<;>rfl
 ·cases had
  exact three_new w _ _ _ t j u hu
theorem bk_sl{w:World}{base:Nat}{e:TypeId}{size k:Nat}{v:Value}{xs:List Value}(h:O1 w base e size v k xs):∃a n c,v=.slice a n c:=by
 rcases h.2 with⟨h,_⟩|⟨g,o,cap,cur,h,_⟩
 ·exact⟨_,_,_,h⟩
 ·exact⟨_,_,_,h⟩
theorem bk_fin{w w1 X w2:World}{H:TypeId}{B base k n2 f:Nat}{F:Nat->Value}{vb v2:Value}{ys:List Value}(hf:1<=f/\f<18)(hB:base<=B)(hlt:B<w.heap.size)(hne:vb.ownBlock≠some B)(hg1:w.grownBy w1 (some B))(hs1:w1.heap.size=w.heap.size)(hX:Below w1.heap.size w1 X)(hvb:∀g,vb.ownBlock=some g->base<=g)
  (hg2:X.grownBy w2 vb.ownBlock) (hl2:Lies X w2 vb v2 k 1) (hbk:WB w2 B n2 F) (ho2:O1 w2 base H 3 v2 (k+1) ys):
  WB (w2.setCell ⟨B,f,none⟩ v2) B n2 (fun j=>if j=f then v2 else F j)/\O1 (w2.setCell ⟨B,f,none⟩ v2) base H 3 v2 (k+1) ys/\v2.ownBlock≠some B/\Below base w (w2.setCell ⟨B,f,none⟩ v2)/\
   (∀g,g<w.heap.size->g≠B->vb.ownBlock≠some g->(w2.setCell ⟨B,f,none⟩ v2).heap[g]?=w.heap[g]?/\v2.ownBlock≠some g):=by
 have hXs:=hX.size;have hn2:=mG hl2 hne (by omega);have hset:w2.grownBy (w2.setCell ⟨B,f,none⟩ v2) (some B):=⟨rfl,rfl,rfl,by simp,fun g _ hg=>Qi w2 _ _ g (fun e=>hg (by rw[e]))⟩;refine⟨hbk.setF f hf v2,O1.kept ho2 hset (.inr hn2),hn2,?_,fun g hg hgB hgv=>⟨?_,mG hl2 hgv (by omega)⟩⟩
 ·have h1:Below base w w1:=(Below.refl base w).grown hg1 (by omega) (fun k hk=>by cases hk;exact hB);have h2:Below base w X:=h1.trans (hX.mono (by omega));exact(h2.grown hg2 (by omega) hvb).setCell (p:=⟨B,f,none⟩) hB v2
 ·rw[Qi w2 _ _ g hgB,hg2.block g (by omega) (fun e=>hgv e.symm),hX.block g (by omega),hg1.block g hg (fun e=>hgB (by cases e;rfl))]
theorem heap_same(w:World)(b off:Nat)(u:Value)(c:Array Value)(t:TypeId)(fr:Nat×Nat)(h:w.heap[b]?=some (.cells c t fr)):(w.setCell ⟨b,off,none⟩ u).heap[b]?=some (.cells (c.setIfInBounds off u) t fr):=by
 simp only[World.setCell];rw[Array.getElem?_modify]
 simp[h]
theorem O1.put{w:World}{base:Nat}{e:TypeId}{size n:Nat}{xs:List Value}{g o cap:Nat}(h:O1 w base e size (.slice (some ⟨g,o,none⟩) n cap) n xs){j:Nat}(u:Value):O1 (w.setCell ⟨g,o+j,none⟩ u) base e size (.slice (some ⟨g,o,none⟩) n cap) n (xs.set j u):=by
 obtain⟨h1,h2⟩:=h
 rcases h2 with⟨h2,_⟩|⟨g',o',cap',cur,h3,h4,h5,h6,h7,h8,h9⟩
 ·cases h2
 ·cases h3
  refine⟨by rw[List.length_set];exact h1,.inr ⟨g,o,cap,_,rfl,h4,heap_same w g (o+j) u cur e (0,0) h5,h6,h7,by rw[Array.size_setIfInBounds];exact h8,?_⟩⟩;rw[Array.toList_setIfInBounds,List.drop_set,if_neg (by omega),show o+j-o=j by omega,List.take_set,h9]
def putL(w:World)(g p:Nat):List Value->World
 |[]=>w
 |u::l=>putL (w.setCell ⟨g,p,none⟩ u) g (p+1) l
def nY(xs:List Value)(j:Nat):List Value->List Value
 |[]=>xs
 |u::l=>nY (xs.set j u) (j+1) l
theorem O1.putL{base:Nat}{e:TypeId}{size n:Nat}{g o cap:Nat}:∀(l:List Value) {w:World} {xs:List Value} {j:Nat},O1 w base e size (.slice (some ⟨g,o,none⟩) n cap) n xs->O1 (Go.Proofs.YtpkalgofejjggaaGreatDoor.putL w g (o+j) l) base e size (.slice (some ⟨g,o,none⟩) n cap) n (nY xs j l)
 |[],_,_,_,h=>h
 |u::l,_,_,j,h=>by
  have h1:=O1.putL l (j:=j+1) (O1.put h (j:=j) u);rw[<-Nat.add_assoc] at h1;exact h1
theorem AP:∀(l A R:List Value),l.length<=R.length->nY (A++R) A.length l=A++l++R.drop l.length
 |[],A,R,_=>by simp[nY]
 |u::l,A,[],h=>by simp at h
 |u::l,A,r::R,h=>by
  have h1:=AP l (A++[u]) R (by simpa using h);rw[nY,List.set_append_right _ _ (Nat.le_refl _),Nat.sub_self,List.set_cons_zero];rw[List.length_append,List.length_singleton] at h1;rw[show A++u::R=(A++[u])++R by simp,h1]
  simp
theorem SE:∀(l:List Value) (w:World) (g p k:Nat),k≠g->(putL w g p l).heap[k]?=w.heap[k]?
 |[],_,_,_,_,_=>rfl
 |u::l,w,g,p,k,h=>(SE l _ g (p+1) k h).trans (Qi w ⟨g,p,none⟩ u k h)
theorem uI:∀(l:List Value) (w:World) (g p:Nat),(putL w g p l).heap.size=w.heap.size
 |[],_,_,_=>rfl
 |u::l,w,g,p=>(uI l _ g (p+1)).trans (by simp)
theorem UK{base:Nat}{w0:World}:∀(l:List Value) {w:World} {g p:Nat},base<=g->Below base w0 w->Below base w0 (putL w g p l)
 |[],_,_,_,_,h=>h
 |u::l,_,g,p,hg,h=>UK l hg (h.setCell (p:=⟨g,p,none⟩) hg u)
theorem cell_far{w:World}{a:Addr}{v:Value}{g p:Nat}{l:List Value}(h:w.cell? a=some v)(hn:a.block≠g):(putL w g p l).cell? a=some v:=(World.cell?_of_block (w:=w) (SE l w g p a.block hn)).trans h
def prt(mk:List Value)(p:Nat)(xs:List Value):List Value:=rep p mk++xs.drop (p*mk.length)
theorem prt_zero(mk xs:List Value):prt mk 0 xs=xs:=by simp[prt,rep]
theorem prt_all(mk xs:List Value){n:Nat}(h:xs.length=n*mk.length):prt mk n xs=rep n mk:=by rw[prt,List.drop_eq_nil_of_le (by omega),List.append_nil]
theorem prt_set{mk xs:List Value}{p s:Nat}(hs:mk.length=s)(h:(p+1)*s<=xs.length):nY (prt mk p xs) (p*s) mk=prt mk (p+1) xs:=by
 subst hs;unfold prt;rw[Nat.succ_mul] at h;have h1:=AP mk (rep p mk) (xs.drop (p*mk.length)) (by rw[List.length_drop];omega);rw[ZI] at h1;rw[h1,rep_succ,List.drop_drop,Nat.succ_mul]
theorem prt_get{mk xs:List Value}{p s:Nat}(hs:mk.length=s)(q:Nat):(prt mk p xs)[p*s+q]?=xs[p*s+q]?:=by
 subst hs;unfold prt;rw[List.getElem?_append_right (by rw[ZI];omega),ZI,List.getElem?_drop]
 congr 1
 omega
structure wQ(E H:TypeId)(s f:Nat)(M:Nat->Nat)(w:World)(base B n k:Nat)(F L G:Nat->Value)(N:Nat->Nat)(X:Nat->List Value):Prop where
 book:WB w B n F
 row:O1 w base H 3 (F f) k (hld M L G k)
 own:∀i,i<k->O1 w base E s (L i) (N i) (X i)
theorem wQ.later{E H:TypeId}{s f:Nat}{M:Nat->Nat}{w w':World}{base B n k:Nat}{F L G:Nat->Value}{N:Nat->Nat}{X:Nat->List Value}(h:wQ E H s f M w base B n k F L G N X)(hb:Below w.heap.size w w'):wQ E H s f M w' base B n k F L G N X:=
 ⟨h.book.kept (hb.block B h.book.lt),O1.later h.row hb,fun i hi=>O1.later (h.own i hi) hb⟩
structure TI(B k:Nat)(vb:Value)(L:Nat->Value):Prop where
 notB:vb.ownBlock≠some B
 one:∀i,i<k->∀g,(L i).ownBlock=some g->g≠B/\vb.ownBlock≠some g
 two:∀i j,i<k->j<k->i≠j->∀g,(L i).ownBlock=some g->(L j).ownBlock≠some g
theorem wQ.put{E H:TypeId}{s f:Nat}{M:Nat->Nat}{w:World}{base B n k:Nat}{F L G:Nat->Value}{N:Nat->Nat}{X:Nat->List Value}(h:wQ E H s f M w base B n k F L G N X)(ha:TI B k (F f) L){i:Nat}(hi:i<k){g o cap:Nat}(hL:L i=.slice (some ⟨g,o,none⟩) (N i) cap){j:Nat}(l:List Value):
  wQ E H s f M (putL w g (o+j) l) base B n k F L G N (fun p=>if p=i then nY (X i) j l else X p):=by
 have hg:(L i).ownBlock=some g:=by rw[hL];rfl
 have hab:=ha.one i hi g hg;have hs:=fun q (hq:q≠g)=>SE l w g (o+j) q hq
 refine⟨h.book.kept (hs B (fun e=>hab.1 e.symm)),O1.block h.row (fun q hq=>hs q (fun e=>hab.2 (by rw[<-e];exact hq))),fun p hp=>?_⟩
 by_cases hpi:p=i
 ·subst hpi;rw[if_pos rfl];have h1:=h.own p hp;rw[hL] at h1⊢;exact O1.putL l h1
 ·rw[if_neg hpi];exact O1.block (h.own p hp) (fun q hq=>hs q (fun e=>ha.two i p hi hp (fun e=>hpi e.symm) g hg (by rw[<-e];exact hq)))
theorem wQ.congr{E H:TypeId}{s f:Nat}{M:Nat->Nat}{w:World}{base B n k:Nat}{F L G:Nat->Value}{N:Nat->Nat}{X Y:Nat->List Value}(h:wQ E H s f M w base B n k F L G N X)(hxy:∀i,i<k->X i=Y i):wQ E H s f M w base B n k F L G N Y:=
 ⟨h.book,h.row,fun i hi=>by rw[<-hxy i hi];exact h.own i hi⟩
theorem YE{H:TypeId}{M:Nat->Nat}{w:World}{base k:Nat}{L G:Nat->Value}{g o cap:Nat}(h:O1 w base H 3 (.slice (some ⟨g,o,none⟩) k cap) k (hld M L G k)){i:Nat}(hi:i<k):
  w.cell? ⟨g,o+i*3,none⟩=some (L i)/\w.cell? ⟨g,o+i*3+1,none⟩=some (G i)/\w.cell? ⟨g,o+i*3+2,none⟩=some (.int .i64 (M i)):=by
 obtain⟨h1,h2,h3⟩:=hld_get M L G hi;have hc:=O1.cells h;refine⟨?_,?_,?_⟩
 ·have:=hc _ _ h1;rwa [Addr.add_lit] at this
 ·have:=hc _ _ h2;rwa [Addr.add_lit,<-Nat.add_assoc] at this
 ·have:=hc _ _ h3;rwa [Addr.add_lit,<-Nat.add_assoc] at this
theorem UG{H:TypeId}{s:Nat}{w:World}{base k n:Nat}{vb:Value}{xs:List Value}(h:O1 w base H s vb n xs)(hk:k<n):∃g o cap,vb=.slice (some ⟨g,o,none⟩) n cap/\n<=cap/\cap<=maxLen/\base<=g/\g<w.heap.size:=by
 rcases h.2 with⟨_,h⟩|⟨g,o,cap,cur,h1,h2,h3,h4,h5,_⟩
 ·omega
 ·exact⟨g,o,cap,h1,h4,h5,h2,(J6.1 h3).1⟩
def OA(k:Nat)(L:Nat->Value)(v:Value)(w w':World):Prop:=w.heap.size<=w'.heap.size/\∀g,g<w.heap.size->v.ownBlock≠some g->(∀i,i<k->(L i).ownBlock≠some g)->w'.heap[g]?=w.heap[g]?
theorem OA.refl(k:Nat)(L:Nat->Value)(v:Value)(w:World):OA k L v w w:=⟨Nat.le_refl _,fun _ _ _ _=>rfl⟩
theorem OA.later{k:Nat}{L:Nat->Value}{v:Value}{w w1 w2:World}(h:OA k L v w w1)(hb:Below w1.heap.size w1 w2):OA k L v w w2:=
 ⟨Nat.le_trans h.1 hb.size,fun g h1 h2 h3=>(hb.block g (jv h1 h.1)).trans (h.2 g h1 h2 h3)⟩
theorem OA.put{k:Nat}{L:Nat->Value}{v:Value}{w w1:World}{i g p:Nat}{l:List Value}(h:OA k L v w w1)(hi:i<k)(hg:(L i).ownBlock=some g):OA k L v w (putL w1 g p l):=
 ⟨by rw[uI];exact h.1,fun q h1 h2 h3=>(SE l w1 g p q (fun e=>h3 i hi (by rw[hg,e]))).trans (h.2 q h1 h2 h3)⟩
theorem OA.grow{k:Nat}{L:Nat->Value}{v:Value}{w wo w':World}{i gv p:Nat}{u:Value}(h:OA k L v w wo)(hsz:wo.heap.size<=w'.heap.size)(hfr:∀g,g<wo.heap.size->(L i).ownBlock≠some g->w'.heap[g]?=wo.heap[g]?) (hi:i<k) (hv:v.ownBlock=some gv):OA k L v w (w'.setCell ⟨gv,p,none⟩ u):=
 ⟨by simp only[World.size_setCell];exact Nat.le_trans h.1 hsz,fun q h1 h2 h3=>(Qi w' ⟨gv,p,none⟩ u q (fun e=>h2 (by rw[hv,e]))).trans ((hfr q (jv h1 h.1) (h3 i hi)).trans (h.2 q h1 h2 h3))⟩
theorem wQ.over{E H:TypeId}{s f:Nat}{M:Nat->Nat}{w:World}{base B n k:Nat}{F L G:Nat->Value}{N:Nat->Nat}{X:Nat->List Value}(h:wQ E H s f M w base B n k F L G N X)(ha:TI B k (F f) L){i:Nat}(hi:i<k){g o cap:Nat}(hL:L i=.slice (some ⟨g,o,none⟩) (N i) cap){j:Nat}{mk Y:List Value}(hX:X i=prt mk j Y)(hY:Y.length=N i*s)(hj:j<N i)(hs:mk.length=s):
  wQ E H s f M (putL w g (o+j*s) mk) base B n k F L G N (fun p=>if p=i then prt mk (j+1) Y else X p):=
 (h.put ha hi hL (j:=j*s) mk).congr fun p _=>by
  by_cases hp:p=i
  ·subst hp;rw[if_pos rfl,if_pos rfl,hX];exact prt_set hs (by rw[hY];exact Nat.mul_le_mul_right s hj)
  ·rw[if_neg hp,if_neg hp]
theorem prt_old{w:World}{base N s o cap g j q:Nat}{E:TypeId}{mk Y:List Value}(h:O1 w base E s (.slice (some ⟨g,o,none⟩) N cap) N (prt mk j Y))(hs:mk.length=s)(hY:Y.length=N*s)(hj:j<N)(hq:q<s):∃u,w.cell? ⟨g,o+j*s+q,none⟩=some u:=by
 have h1:j*s+q<Y.length:=by have h2:(j+1)*s<=N*s:=Nat.mul_le_mul_right s hj;rw[Nat.succ_mul] at h2;omega
 refine⟨Y[j*s+q],?_⟩;have:=O1.cells h (j*s+q) Y[j*s+q] (by rw[prt_get hs,List.getElem?_eq_getElem h1])
 rwa [Addr.add_lit,<-Nat.add_assoc] at this
def MAt(w:World)(mk:List Value)(v:Value)(n:Nat):Prop:=
 ∃a c,v=.slice a n c/\n<=c/\c<=maxLen/\(0<n->∃g o,a=some ⟨g,o,none⟩/\∀p q u,p<n->mk[q]?=some u->w.cell? ⟨g,o+p*mk.length+q,none⟩=some u)
theorem MAt.block{w w':World}{mk:List Value}{v:Value}{n:Nat}(h:MAt w mk v n)(hb:∀g,v.ownBlock=some g->w'.heap[g]?=w.heap[g]?):MAt w' mk v n:=by
 obtain⟨a,c,rfl,h1,h2,h3⟩:=h;refine⟨a,c,rfl,h1,h2,fun h0=>?_⟩;obtain⟨g,o,rfl,h4⟩:=h3 h0;exact⟨g,o,rfl,fun p q u hp hu=>(World.cell?_of_block (w:=w) (a:=⟨g,_,none⟩) (hb g rfl)).trans (h4 p q u hp hu)⟩
theorem YQ{w:World}{base n:Nat}{E:TypeId}{s:Nat}{mk:List Value}{v:Value}(hs:mk.length=s)(h:O1 w base E s v n (rep n mk)):MAt w mk v n:=by
 rcases h.2 with⟨rfl,rfl⟩|⟨g,o,cap,cur,rfl,h4,h5,h6,h7,_⟩
 ·exact⟨none,0,rfl,Nat.le_refl _,Nat.zero_le _,fun h0=>absurd h0 (Nat.lt_irrefl _)⟩
 ·refine⟨_,cap,rfl,h6,h7,fun _=>⟨g,o,rfl,fun p q u hp hu=>?_⟩⟩;have:=O1.cells h (p*s+q) u (rep_get hs hu hp)
  rwa [Addr.add_lit,<-Nat.add_assoc,<-hs] at this
theorem MAt.sl{w:World}{mk:List Value}{v:Value}{n:Nat}(h:MAt w mk v n):∃a c,v=.slice a n c/\n<=c/\c<=maxLen:=by
 obtain⟨a,c,h1,h2,h3,_⟩:=h;exact⟨a,c,h1,h2,h3⟩
theorem MAt.cell{w:World}{mk:List Value}{a:Option Addr}{n c p:Nat}(h:MAt w mk (.slice a n c) n)(hp:p<n):∃g o,a=some ⟨g,o,none⟩/\∀q u,mk[q]?=some u->w.cell? ⟨g,o+p*mk.length+q,none⟩=some u:=by
 obtain⟨ao,cap,e,_,_,h4⟩:=h
 cases e
 obtain⟨g,o,rfl,hc⟩:=h4 (by omega);exact⟨g,o,rfl,fun q u hu=>hc p q u hp hu⟩
structure Grow(E H:TypeId)(s f:Nat)(mk:Nat->List Value)(M:Nat->Nat)(z:Nat)(w:World)(base B n k:Nat)(F L G:Nat->Value)(N:Nat->Nat)(i:Nat):Prop where
 book:WB w B n F
 row:O1 w base H 3 (F f) k (hld M L G k)
 own:∀j,i<=j->j<k->O1 w base E s (L j) (N j) (rep (N j) (mk (M j)))
 done:∀j,j<i->j<k->MAt w (mk (M j)) (L j) (N j)/\MAt w (mk (M j)) (G j) (N j+40)
 low:∀j,j<k->∀g,(L j).ownBlock=some g->g<w.heap.size
 far:∀j,j<i->j<k->∀g,(G j).ownBlock=some g->g<w.heap.size/\g≠B/\(F f).ownBlock≠some g/\∀p,i<=p->p<k->(L p).ownBlock≠some g
 new:∀j,j<i->j<k->∀g,(G j).ownBlock=some g->(L j).ownBlock=some g∨z<=g
 zz:z<=w.heap.size
theorem Grow.kept{E H:TypeId}{s f:Nat}{mk:Nat->List Value}{M:Nat->Nat}{z:Nat}{w w':World}{base B n k:Nat}{F L G:Nat->Value}{N:Nat->Nat}{i:Nat}(h:Grow E H s f mk M z w base B n k F L G N i)(hs:w.heap.size<=w'.heap.size)(hB:w'.heap[B]?=w.heap[B]?) (hr:∀g,(F f).ownBlock=some g->w'.heap[g]?=w.heap[g]?)
  (hl:∀j,j<k->∀g,(L j).ownBlock=some g->w'.heap[g]?=w.heap[g]?) (hgr:∀j,j<i->j<k->∀g,(G j).ownBlock=some g->w'.heap[g]?=w.heap[g]?):Grow E H s f mk M z w' base B n k F L G N i:=
 ⟨h.book.kept hB,O1.block h.row hr,fun j h1 h2=>O1.block (h.own j h1 h2) (hl j h2),fun j h1 h2=>⟨(h.done j h1 h2).1.block (hl j h2),(h.done j h1 h2).2.block (hgr j h1 h2)⟩,
  fun j hj g hg=>jv (h.low j hj g hg) hs,fun j h1 h2 g hg=>⟨jv (h.far j h1 h2 g hg).1 hs,(h.far j h1 h2 g hg).2⟩,h.new,Nat.le_trans h.zz hs⟩
theorem Grow.later{E H:TypeId}{s f:Nat}{mk:Nat->List Value}{M:Nat->Nat}{z:Nat}{w w':World}{base B n k:Nat}{F L G:Nat->Value}{N:Nat->Nat}{i:Nat}(h:Grow E H s f mk M z w base B n k F L G N i)(hb:Below w.heap.size w w'):Grow E H s f mk M z w' base B n k F L G N i:=
 h.kept hb.size (hb.block B h.book.lt) (fun g hg=>hb.block g (O1.lt h.row g hg).2) (fun j hj g hg=>hb.block g (h.low j hj g hg)) (fun j h1 h2 g hg=>hb.block g (h.far j h1 h2 g hg).1)
theorem Grow.step{E H:TypeId}{s f:Nat}{mk:Nat->List Value}{M:Nat->Nat}{z:Nat}{w w':World}{base B n k:Nat}{F:Nat->Value}{gv ov cv:Nat}{L G:Nat->Value}{N:Nat->Nat}{i:Nat}{v:Value}(h:Grow E H s f mk M z w base B n k F L G N i)(hF:F f=.slice (some ⟨gv,ov,none⟩) k cv)(ha:TI B k (F f) L)(hi:i<k)(hmk:(mk (M i)).length=s)
  (hsz:w.heap.size<=w'.heap.size) (hfr:∀g,g<w.heap.size->(L i).ownBlock≠some g->w'.heap[g]?=w.heap[g]?)
  (hv:O1 w' base E s v (N i+40) (rep (N i+40) (mk (M i)))) (hl:MAt w' (mk (M i)) (L i) (N i)) (hw:v.ownBlock=(L i).ownBlock∨∀g,v.ownBlock=some g->w.heap.size<=g):
  Grow E H s f mk M z (w'.setCell ⟨gv,ov+i*3+1,none⟩ v) base B n k F L (fun j=>if j=i then v else G j) N (i+1):=by
 have hFg:(F f).ownBlock=some gv:=by rw[hF];rfl
 have hBg:gv≠B:=fun e=>ha.notB (by rw[<-e];exact hFg)
 have hLg:∀j,j<k->∀g,(L j).ownBlock=some g->g≠gv:=fun j hj g hg e=>(ha.one j hj g hg).2 (by rw[e];exact hFg)
 have hgv:gv<w.heap.size:=(O1.lt h.row gv hFg).2
 have hrow:O1 w' base H 3 (.slice (some ⟨gv,ov,none⟩) k cv) k (hld M L G k):=by
  rw[<-hF];exact O1.block h.row (fun g hg=>by rw[hFg] at hg;cases hg;exact hfr gv hgv (fun e=>(ha.one i hi gv e).2 hFg))
 have hB:w'.heap[B]?=w.heap[B]?:=hfr B h.book.lt (fun e=>(ha.one i hi B e).1 rfl)
 have hvg:∀g,v.ownBlock=some g->g<w'.heap.size/\g≠B/\g≠gv/\∀p,i+1<=p->p<k->(L p).ownBlock≠some g:=by
  intro g hg;refine⟨(O1.lt hv g hg).2,?_⟩
  rcases hw with hw|hw
  ·rw[hw] at hg;exact⟨(ha.one i hi g hg).1,hLg i hi g hg,fun p h1 h2=>ha.two i p hi h2 (by omega) g hg⟩
  ·have hge:=hw g hg;have:=h.book.lt;exact⟨by omega,by omega,fun p h1 h2 e=>by have:=h.low p h2 g e;omega⟩
 have hother:∀g,g≠gv->(w'.setCell ⟨gv,ov+i*3+1,none⟩ v).heap[g]?=w'.heap[g]?:=fun g hg=>Qi w' _ _ g hg
 refine⟨(h.book.kept hB).kept (hother B (fun e=>hBg e.symm)),?_,fun j h1 h2=>?_,fun j h1 h2=>?_,fun j hj g hg=>?_,fun j h1 h2 g hg=>?_,fun j h1 h2 g hg=>?_,by simp only[World.size_setCell];exact Nat.le_trans h.zz hsz⟩
 ·have:=O1.put hrow (j:=i*3+1) v;rw[hld_set M L G v hi,<-Nat.add_assoc] at this;rw[hF];exact this
 ·refine O1.block (h.own j (by omega) h2) (fun g hg=>?_);rw[hother g (hLg j h2 g hg)];exact hfr g (h.low j h2 g hg) (fun e=>ha.two i j hi h2 (by omega) g e hg)
 ·by_cases hji:j=i
  ·subst hji;rw[if_pos rfl];exact⟨hl.block (fun g hg=>hother g (hLg j h2 g hg)),(YQ hmk hv).block (fun g hg=>hother g (hvg g hg).2.2.1)⟩
  ·rw[if_neg hji];obtain⟨d1,d2⟩:=h.done j (by omega) h2;refine⟨d1.block (fun g hg=>?_),d2.block (fun g hg=>?_)⟩
   ·rw[hother g (hLg j h2 g hg)];exact hfr g (h.low j h2 g hg) (fun e=>ha.two i j hi h2 (by omega) g e hg)
   ·obtain⟨f1,f2,f3,f4⟩:=h.far j (by omega) h2 g hg;rw[hother g (fun e=>f3 (by rw[e];exact hFg))];exact hfr g f1 (f4 i (Nat.le_refl _) hi)
 ·have:=h.low j hj g hg;simp only[World.size_setCell];omega
 ·simp only[World.size_setCell]
  by_cases hji:j=i
  ·rw[if_pos hji] at hg;obtain⟨f1,f2,f3,f4⟩:=hvg g hg;exact⟨f1,f2,fun e=>f3 (by rw[hFg] at e;cases e;rfl),f4⟩
  ·rw[if_neg hji] at hg;obtain⟨f1,f2,f3,f4⟩:=h.far j (by omega) h2 g hg;exact⟨by omega,f2,f3,fun p h3 h4=>f4 p (by omega) h4⟩
 ·by_cases hji:j=i
  ·rw[if_pos hji] at hg;subst hji
   rcases hw with hw|hw
   ·exact .inl (by rw[<-hw];exact hg)
   ·exact .inr (Nat.le_trans h.zz (hw g hg))
  ·rw[if_neg hji] at hg;exact h.new j (by omega) h2 g hg
structure Long(E:TypeId)(s:Nat)(mk:List Value)(wo wq:World)(base n:Nat)(Li v:Value)(p:Nat):Prop where
 own:O1 wq base E s v (n+p) (rep (n+p) mk)
 at_:MAt wq mk Li n
 start:(∃g o c c',Li=.slice (some ⟨g,o,none⟩) n c/\v=.slice (some ⟨g,o,none⟩) (n+p) c')∨∀g,v.ownBlock=some g->wo.heap.size<=g
 frame:∀g,g<wo.heap.size->Li.ownBlock≠some g->wq.heap[g]?=wo.heap[g]?
 below:Below base wo wq
 low:∀g,Li.ownBlock=some g->g<wo.heap.size
 size:wo.heap.size<=wq.heap.size
theorem Long.first{E:TypeId}{s:Nat}{mk:List Value}{wo:World}{base n:Nat}{Li:Value}(hs:mk.length=s)(h:O1 wo base E s Li n (rep n mk)):Long E s mk wo wo base n Li Li 0:=by
 refine⟨h,YQ hs h,?_,fun _ _ _=>rfl,U3,fun g hg=>(O1.lt h g hg).2,Nat.le_refl _⟩
 rcases h.2 with⟨rfl,_⟩|⟨g,o,cap,cur,rfl,_⟩
 ·exact .inr (fun g hg=>by simp[Value.ownBlock] at hg)
 ·exact .inl ⟨g,o,cap,cap,rfl,rfl⟩
theorem Long.next{E:TypeId}{s:Nat}{mk:List Value}{wo wq X w2:World}{base n p:Nat}{Li v v':Value}(h:Long E s mk wo wq base n Li v p)(hs:mk.length=s)(hb:base<=wo.heap.size)(hX:Below wq.heap.size wq X)(hg:X.grownBy w2 v.ownBlock)(hl:Lies X w2 v v' (n+p) 1)
  (ho:O1 w2 base E s v' (n+p+1) (rep (n+p) mk++mk)):Long E s mk wo w2 base n Li v' (p+1):=by
 have hXs:=hX.size;have hwq:=h.size
 have ho':O1 w2 base E s v' (n+(p+1)) (rep (n+(p+1)) mk):=by
  rw[<-Nat.add_assoc,rep_succ];exact ho
 have hvb:∀g,g<wo.heap.size->Li.ownBlock≠some g->v.ownBlock≠some g:=by
  intro g h1 h2 e
  rcases h.start with⟨g1,o,c,c',rfl,rfl⟩|h3
  ·exact h2 e
  ·have:=h3 g e;omega
 refine⟨ho',?_,?_,fun g h1 h2=>?_,?_,h.low,by have:=hg.size;omega⟩
 ·have hother:(∀g,Li.ownBlock=some g->w2.heap[g]?=X.heap[g]?)->MAt w2 mk Li n:=fun hh=>(h.at_.block (fun g hg=>hX.block g (jv (h.low g hg) hwq))).block hh
  rcases hl with⟨g,o,cap,hv,hv'⟩|⟨_,hn⟩|⟨h0,_⟩
  ·rcases h.start with⟨g1,o1,c,c',hL,hv1⟩|h3
   ·rw[hv] at hv1
    cases hv1
    obtain⟨ao,cap0,e,h1,h2,h3⟩:=h.at_;obtain⟨ao2,cap2,e2,_,_,h5⟩:=YQ hs ho';rw[hL] at e
    cases e
    refine⟨_,_,hL,h1,h2,fun h0=>⟨g,o,rfl,fun q r x hq hr=>?_⟩⟩;obtain⟨g3,o3,e3,h6⟩:=h5 (by omega);rw[hv',e3] at e2
    cases e2
    exact h6 q r x (by omega) hr
   ·refine hother (fun g2 hg2=>hg.block g2 (by have:=h.low g2 hg2;omega) (fun e=>?_));have:=h3 g2 e.symm;have:=h.low g2 hg2;omega
  ·exact hother (fun g2 hg2=>hn.block g2 (by have:=h.low g2 hg2;omega) (fun e=>by cases e))
  ·cases h0
 ·rcases hl with⟨g,o,cap,hv,hv'⟩|⟨hf,_⟩|⟨h0,_⟩
  ·rcases h.start with⟨g1,o1,c,c',hL,hv1⟩|h3
   ·rw[hv] at hv1
    cases hv1
    exact .inl ⟨g,o,c,cap,hL,by rw[hv',Nat.add_assoc]⟩
   ·right
    intro g2 hg2;rw[hv'] at hg2;exact h3 g2 (by rw[hv];exact hg2)
  ·right
   intro g2 hg2;rw[hf] at hg2
   cases hg2
   omega
  ·cases h0
 ·rw[hg.block g (by omega) (fun e=>hvb g h1 h2 e.symm),hX.block g (by omega)];exact h.frame g h1 h2
 ·exact(h.below.trans (hX.mono (by omega))).grown hg (by omega) (fun q hq=>(O1.lt h.own q hq).1)
theorem Long.start_block{E:TypeId}{s:Nat}{mk:List Value}{wo wq:World}{base n p:Nat}{Li v:Value}(h:Long E s mk wo wq base n Li v p):v.ownBlock=Li.ownBlock∨∀g,v.ownBlock=some g->wo.heap.size<=g:=by
 rcases h.start with⟨g,o,c,c',rfl,rfl⟩|h
 ·exact .inl rfl
 ·exact .inr h
theorem Grow.of{E H:TypeId}{s f:Nat}{mk:Nat->List Value}{M:Nat->Nat}{w:World}{base B n k:Nat}{F L G:Nat->Value}{N:Nat->Nat}(h:wQ E H s f M w base B n k F L G N (fun i=>rep (N i) (mk (M i)))):Grow E H s f mk M w.heap.size w base B n k F L G N 0:=
 ⟨h.book,h.row,fun j _ hj=>h.own j hj,fun _ hj=>absurd hj (Nat.not_lt_zero _),fun j hj g hg=>(O1.lt (h.own j hj) g hg).2,fun _ hj=>absurd hj (Nat.not_lt_zero _),fun _ hj=>absurd hj (Nat.not_lt_zero _),Nat.le_refl _⟩
structure Chg(w w':World)(S:Nat->Prop):Prop where
 os:w'.os=w.os
 tape:w'.tape=w.tape
 output:w'.output=w.output
 size:w.heap.size<=w'.heap.size
 block:∀g,g<w.heap.size->¬S g->w'.heap[g]?=w.heap[g]?
def plus(S:Nat->Prop)(w w':World)(g:Nat):Prop:=S g∨(w.heap.size<=g/\g<w'.heap.size)
theorem Chg.below{w w':World}{S:Nat->Prop}{base:Nat}(h:Chg w w' S)(hS:∀g,S g->base<=g)(hb:base<=w.heap.size):Below base w w':=
 ⟨h.os,h.tape,h.output,h.size,fun g hg=>h.block g (by omega) (fun e=>by have:=hS g e;omega)⟩
structure Kf(E H:TypeId)(s f:Nat)(w:World)(base B k:Nat)(F L:Nat->Value)(N:Nat->Nat)(X:Nat->List Value):Prop where
 fam:wQ E H s f (fun i=>i+1) w base B k k F L (fun _=>.slice none 0 0) N X
 apart:TI B k (F f) L
 nil:∀j,1<=j->j<18->j≠f->F j=.slice none 0 0
 low:base<=B
 short:∀i,i<k->N i<=4000000
def KfB(f B k:Nat)(F L:Nat->Value)(g:Nat):Prop:=g=B∨(F f).ownBlock=some g∨∃i,i<k/\(L i).ownBlock=some g
section
variable {E H:TypeId}{s f:Nat}{w w':World}{base B k:Nat}{F L:Nat->Value}{N:Nat->Nat}{X:Nat->List Value}
theorem Kf.kept(h:Kf E H s f w base B k F L N X)(hb:∀g,KfB f B k F L g->w'.heap[g]?=w.heap[g]?):Kf E H s f w' base B k F L N X:=
 ⟨⟨h.fam.book.kept (hb B (.inl rfl)),O1.block h.fam.row (fun g hg=>hb g (.inr (.inl hg))),fun i hi=>O1.block (h.fam.own i hi) (fun g hg=>hb g (.inr (.inr ⟨i,hi,hg⟩)))⟩,h.apart,h.nil,h.low,h.short⟩
theorem Kf.more(h:Kf E H s f w base B k F L N X){v vb:Value}{n:Nat}{xs:List Value}(hv:O1 w base E s v n xs)(hn:n<=4000000)(hd:∀g,v.ownBlock=some g->¬KfB f B k F L g)
  (hb:WB w' B (k+1) (fun j=>if j=f then vb else F j)) (hr:O1 w' base H 3 vb (k+1) (hld (fun i=>i+1) (fun j=>if j=k then v else L j) (fun _=>.slice none 0 0) (k+1))) (hB:vb.ownBlock≠some B)
  (hk:∀g,g<w.heap.size->g≠B->(F f).ownBlock≠some g->w'.heap[g]?=w.heap[g]?/\vb.ownBlock≠some g):
  Kf E H s f w' base B (k+1) (fun j=>if j=f then vb else F j) (fun j=>if j=k then v else L j) (fun j=>if j=k then n else N j) (fun j=>if j=k then xs else X j):=by
 have hL:∀i,i<k->∀g,(L i).ownBlock=some g->w'.heap[g]?=w.heap[g]?/\vb.ownBlock≠some g:=fun i hi g hg=>hk g (O1.lt (h.fam.own i hi) g hg).2 (h.apart.one i hi g hg).1 (h.apart.one i hi g hg).2
 have hV:∀g,v.ownBlock=some g->w'.heap[g]?=w.heap[g]?/\vb.ownBlock≠some g:=fun g hg=>hk g (O1.lt hv g hg).2 (fun e=>hd g hg (.inl e)) (fun e=>hd g hg (.inr (.inl e)))
 have hff:(if f=f then vb else F f)=vb:=if_pos rfl;refine⟨⟨hb,by rw[hff];exact hr,fun i hi=>?_⟩,⟨by rw[hff];exact hB,fun i hi g hg=>?_,fun i j hi hj hij g hg=>?_⟩,fun j h1 h2 h3=>?_,h.low,fun i hi=>?_⟩
 ·by_cases e:i=k
  ·simp only[if_pos e];exact O1.block hv fun g hg=>(hV g hg).1
  ·simp only[if_neg e];exact O1.block (h.fam.own i (by omega)) fun g hg=>(hL i (by omega) g hg).1
 ·rw[hff]
  by_cases e:i=k
  ·simp only[if_pos e] at hg;exact⟨fun e9=>hd g hg (.inl e9),(hV g hg).2⟩
  ·simp only[if_neg e] at hg;exact⟨(h.apart.one i (by omega) g hg).1,(hL i (by omega) g hg).2⟩
 ·by_cases e:i=k<;>by_cases e':j=k
  ·omega
  ·simp only[if_pos e] at hg;simp only[if_neg e'];exact fun e9=>hd g hg (.inr (.inr ⟨j,by omega,e9⟩))
  ·simp only[if_neg e] at hg;simp only[if_pos e'];exact fun e9=>hd g e9 (.inr (.inr ⟨i,by omega,hg⟩))
  ·simp only[if_neg e] at hg;simp only[if_neg e'];exact h.apart.two i j (by omega) (by omega) hij g hg
 ·simp only[if_neg h3];exact h.nil j h1 h2 h3
 ·by_cases e:i=k
  ·simp only[if_pos e];exact hn
  ·simp only[if_neg e];exact h.short i (by omega)
end
def Bk(E H:TypeId)(s f:Nat)(w:World)(base B k:Nat)(S:Nat->Prop):Prop:=(∃F L N X,Kf E H s f w base B k F L N X/\∀g,KfB f B k F L g->S g)/\∀g,S g->base<=g/\g<w.heap.size
section
variable {E H:TypeId}{s f:Nat}{w w':World}{base B k:Nat}{S:Nat->Prop}
theorem Bk.kept(h:Bk E H s f w base B k S)(hb:∀g,S g->w'.heap[g]?=w.heap[g]?) (hs:w.heap.size<=w'.heap.size):Bk E H s f w' base B k S:=by
 obtain⟨⟨F,L,N,X,h1,h2⟩,h3⟩:=h;exact⟨⟨F,L,N,X,h1.kept fun g hg=>hb g (h2 g hg),h2⟩,fun g hg=>⟨(h3 g hg).1,by have:=(h3 g hg).2;omega⟩⟩
theorem Bk.later(h:Bk E H s f w base B k S)(hb:Below w.heap.size w w'):Bk E H s f w' base B k S:=h.kept (fun g hg=>hb.block g (h.2 g hg).2) hb.size
end
abbrev bkZ:Array Value:=#[.int .i64 0,.slice none 0 0,.slice none 0 0,.slice none 0 0,.slice none 0 0,.slice none 0 0,.slice none 0 0,.slice none 0 0,.slice none 0 0,.slice none 0 0,.slice none 0 0,.slice none 0 0,.slice none 0 0,.slice none 0 0,.slice none 0 0,.slice none 0 0,.slice none 0 0,.slice none 0 0]
theorem Bk.new(w:World)(t E H:TypeId)(s f:Nat):Bk E H s f (w.alloc (.cells bkZ t)) w.heap.size w.heap.size 0 (fun g=>g=w.heap.size):=by
 have h:=heap_alloc_new w (.cells bkZ t);have hc:∀j,(w.alloc (.cells bkZ t)).cell? ⟨w.heap.size,j,none⟩=bkZ[j]?:=fun j=>cell_of_row _ w.heap.size j bkZ t (0,0) h
 have hb:WB (w.alloc (.cells bkZ t)) w.heap.size 0 (fun _=>.slice none 0 0):=by
  refine⟨hc 0,fun j h1 h2=>?_,fun j _=>by simp⟩;rw[hc];have hj:j=1∨j=2∨j=3∨j=4∨j=5∨j=6∨j=7∨j=8∨j=9∨j=10∨j=11∨j=12∨j=13∨j=14∨j=15∨j=16∨j=17:=by omega
  rcases hj with rfl|rfl|rfl|rfl|rfl|rfl|rfl|rfl|rfl|rfl|rfl|rfl|rfl|rfl|rfl|rfl|rfl<;>rfl
 refine⟨⟨fun _=>.slice none 0 0,fun _=>.slice none 0 0,fun _=>0,fun _=>[],⟨⟨hb,⟨rfl,.inl ⟨rfl,rfl⟩⟩,fun i hi=>absurd hi (Nat.not_lt_zero _)⟩,⟨fun e=>(by simp[Value.ownBlock] at e),fun i hi=>absurd hi (Nat.not_lt_zero _),fun i j hi=>absurd hi (Nat.not_lt_zero _)⟩,fun _ _ _ _=>rfl,Nat.le_refl _,fun i hi=>absurd hi (Nat.not_lt_zero _)⟩,fun g hg=>?_⟩,fun g hg=>?_⟩
 ·rcases hg with hg|hg|⟨i,hi,_⟩
  ·exact hg
  ·simp[Value.ownBlock] at hg
  ·exact absurd hi (Nat.not_lt_zero _)
 ·subst hg;exact⟨Nat.le_refl _,by simp⟩
theorem dF{w:World}{B n f:Nat}{F:Nat->Value}(h:WB w B n F)(hn:∀j,1<=j->j<18->j≠f->F j=.slice none 0 0)(j:Nat)(hj:1<=j/\j<18/\j≠f):w.cell? ⟨B,j,none⟩=some (.slice none 0 0):=by
 rw[h.2.1 j (by omega) hj.2.1,hn j hj.1 hj.2.1 hj.2.2]
abbrev D5(f i:Nat)(r:Value):Prop:=∀(w:World) (B:Nat),w.cell? ⟨B,i,none⟩=some (.slice none 0 0)->Calls prog f #[.pointer (some ⟨B,0,none⟩)] w fun e w'=>e=.returned r/\w=w'
theorem VS:D5 47 2 (.tuple #[]):=by
 intro w B h
 go_enter func47,ntmps47
 go_wp2
 refine wp_loop_rounds 1 ?_;rw[rounds_succ]
 go_wp2
 go_end0
 exact⟨rfl,rfl⟩
theorem wS:D5 64 2 (.tuple #[]):=by
 intro w B h
 go_enter func64,ntmps64
 go_wp2
 refine wp_loop_rounds 1 ?_;rw[rounds_succ]
 go_wp2
 go_end0
 exact⟨rfl,rfl⟩
theorem yR:D5 81 2 (.bool true):=by
 intro w B h
 go_enter func81,ntmps81
 go_wp2
 refine wp_loop_rounds 1 ?_;rw[rounds_succ]
 go_wp2
 go_ret
 exact⟨rfl,rfl⟩
theorem MO:D5 48 3 (.tuple #[]):=by
 intro w B h
 go_enter func48,ntmps48
 go_wp2
 refine wp_loop_rounds 1 ?_;rw[rounds_succ]
 go_wp2
 go_end0
 exact⟨rfl,rfl⟩
theorem EO:D5 65 3 (.tuple #[]):=by
 intro w B h
 go_enter func65,ntmps65
 go_wp2
 refine wp_loop_rounds 1 ?_;rw[rounds_succ]
 go_wp2
 go_end0
 exact⟨rfl,rfl⟩
theorem uO:D5 82 3 (.bool true):=by
 intro w B h
 go_enter func82,ntmps82
 go_wp2
 refine wp_loop_rounds 1 ?_;rw[rounds_succ]
 go_wp2
 go_ret
 exact⟨rfl,rfl⟩
theorem PS:D5 49 4 (.tuple #[]):=by
 intro w B h
 go_enter func49,ntmps49
 go_wp2
 refine wp_loop_rounds 1 ?_;rw[rounds_succ]
 go_wp2
 go_end0
 exact⟨rfl,rfl⟩
theorem nS:D5 66 4 (.tuple #[]):=by
 intro w B h
 go_enter func66,ntmps66
 go_wp2
 refine wp_loop_rounds 1 ?_;rw[rounds_succ]
 go_wp2
 go_end0
 exact⟨rfl,rfl⟩
theorem pR:D5 83 4 (.bool true):=by
 intro w B h
 go_enter func83,ntmps83
 go_wp2
 refine wp_loop_rounds 1 ?_;rw[rounds_succ]
 go_wp2
 go_ret
 exact⟨rfl,rfl⟩
theorem PO:D5 50 5 (.tuple #[]):=by
 intro w B h
 go_enter func50,ntmps50
 go_wp2
 refine wp_loop_rounds 1 ?_;rw[rounds_succ]
 go_wp2
 go_end0
 exact⟨rfl,rfl⟩
theorem FO:D5 67 5 (.tuple #[]):=by
 intro w B h
 go_enter func67,ntmps67
 go_wp2
 refine wp_loop_rounds 1 ?_;rw[rounds_succ]
 go_wp2
 go_end0
 exact⟨rfl,rfl⟩
theorem vO:D5 84 5 (.bool true):=by
 intro w B h
 go_enter func84,ntmps84
 go_wp2
 refine wp_loop_rounds 1 ?_;rw[rounds_succ]
 go_wp2
 go_ret
 exact⟨rfl,rfl⟩
theorem RJ:D5 51 6 (.tuple #[]):=by
 intro w B h
 go_enter func51,ntmps51
 go_wp2
 refine wp_loop_rounds 1 ?_;rw[rounds_succ]
 go_wp2
 go_end0
 exact⟨rfl,rfl⟩
theorem MJ:D5 68 6 (.tuple #[]):=by
 intro w B h
 go_enter func68,ntmps68
 go_wp2
 refine wp_loop_rounds 1 ?_;rw[rounds_succ]
 go_wp2
 go_end0
 exact⟨rfl,rfl⟩
theorem CJ:D5 85 6 (.bool true):=by
 intro w B h
 go_enter func85,ntmps85
 go_wp2
 refine wp_loop_rounds 1 ?_;rw[rounds_succ]
 go_wp2
 go_ret
 exact⟨rfl,rfl⟩
theorem TS:D5 52 7 (.tuple #[]):=by
 intro w B h
 go_enter func52,ntmps52
 go_wp2
 refine wp_loop_rounds 1 ?_;rw[rounds_succ]
 go_wp2
 go_end0
 exact⟨rfl,rfl⟩
theorem vS:D5 69 7 (.tuple #[]):=by
 intro w B h
 go_enter func69,ntmps69
 go_wp2
 refine wp_loop_rounds 1 ?_;rw[rounds_succ]
 go_wp2
 go_end0
 exact⟨rfl,rfl⟩
theorem xR:D5 86 7 (.bool true):=by
 intro w B h
 go_enter func86,ntmps86
 go_wp2
 refine wp_loop_rounds 1 ?_;rw[rounds_succ]
 go_wp2
 go_ret
 exact⟨rfl,rfl⟩
theorem TM:D5 53 8 (.tuple #[]):=by
 intro w B h
 go_enter func53,ntmps53
 go_wp2
 refine wp_loop_rounds 1 ?_;rw[rounds_succ]
 go_wp2
 go_end0
 exact⟨rfl,rfl⟩
theorem BM:D5 70 8 (.tuple #[]):=by
 intro w B h
 go_enter func70,ntmps70
 go_wp2
 refine wp_loop_rounds 1 ?_;rw[rounds_succ]
 go_wp2
 go_end0
 exact⟨rfl,rfl⟩
theorem XL:D5 87 8 (.bool true):=by
 intro w B h
 go_enter func87,ntmps87
 go_wp2
 refine wp_loop_rounds 1 ?_;rw[rounds_succ]
 go_wp2
 go_ret
 exact⟨rfl,rfl⟩
theorem II:D5 54 9 (.tuple #[]):=by
 intro w B h
 go_enter func54,ntmps54
 go_wp2
 refine wp_loop_rounds 1 ?_;rw[rounds_succ]
 go_wp2
 go_end0
 exact⟨rfl,rfl⟩
theorem FI:D5 71 9 (.tuple #[]):=by
 intro w B h
 go_enter func71,ntmps71
 go_wp2
 refine wp_loop_rounds 1 ?_;rw[rounds_succ]
 go_wp2
 go_end0
 exact⟨rfl,rfl⟩
theorem xI:D5 88 9 (.bool true):=by
 intro w B h
 go_enter func88,ntmps88
 go_wp2
 refine wp_loop_rounds 1 ?_;rw[rounds_succ]
 go_wp2
 go_ret
 exact⟨rfl,rfl⟩
theorem TJ:D5 55 10 (.tuple #[]):=by
 intro w B h
 go_enter func55,ntmps55
 go_wp2
 refine wp_loop_rounds 1 ?_;rw[rounds_succ]
 go_wp2
 go_end0
 exact⟨rfl,rfl⟩
theorem NJ:D5 72 10 (.tuple #[]):=by
 intro w B h
 go_enter func72,ntmps72
 go_wp2
 refine wp_loop_rounds 1 ?_;rw[rounds_succ]
 go_wp2
 go_end0
 exact⟨rfl,rfl⟩
theorem DJ:D5 89 10 (.bool true):=by
 intro w B h
 go_enter func89,ntmps89
 go_wp2
 refine wp_loop_rounds 1 ?_;rw[rounds_succ]
 go_wp2
 go_ret
 exact⟨rfl,rfl⟩
theorem OM:D5 56 11 (.tuple #[]):=by
 intro w B h
 go_enter func56,ntmps56
 go_wp2
 refine wp_loop_rounds 1 ?_;rw[rounds_succ]
 go_wp2
 go_end0
 exact⟨rfl,rfl⟩
theorem yM:D5 73 11 (.tuple #[]):=by
 intro w B h
 go_enter func73,ntmps73
 go_wp2
 refine wp_loop_rounds 1 ?_;rw[rounds_succ]
 go_wp2
 go_end0
 exact⟨rfl,rfl⟩
theorem UL:D5 90 11 (.bool true):=by
 intro w B h
 go_enter func90,ntmps90
 go_wp2
 refine wp_loop_rounds 1 ?_;rw[rounds_succ]
 go_wp2
 go_ret
 exact⟨rfl,rfl⟩
theorem WM:D5 58 13 (.tuple #[]):=by
 intro w B h
 go_enter func58,ntmps58
 go_wp2
 refine wp_loop_rounds 1 ?_;rw[rounds_succ]
 go_wp2
 go_end0
 exact⟨rfl,rfl⟩
theorem FM:D5 75 13 (.tuple #[]):=by
 intro w B h
 go_enter func75,ntmps75
 go_wp2
 refine wp_loop_rounds 1 ?_;rw[rounds_succ]
 go_wp2
 go_end0
 exact⟨rfl,rfl⟩
theorem bM:D5 92 13 (.bool true):=by
 intro w B h
 go_enter func92,ntmps92
 go_wp2
 refine wp_loop_rounds 1 ?_;rw[rounds_succ]
 go_wp2
 go_ret
 exact⟨rfl,rfl⟩
theorem vH:D5 59 14 (.tuple #[]):=by
 intro w B h
 go_enter func59,ntmps59
 go_wp2
 refine wp_loop_rounds 1 ?_;rw[rounds_succ]
 go_wp2
 go_end0
 exact⟨rfl,rfl⟩
theorem uH:D5 76 14 (.tuple #[]):=by
 intro w B h
 go_enter func76,ntmps76
 go_wp2
 refine wp_loop_rounds 1 ?_;rw[rounds_succ]
 go_wp2
 go_end0
 exact⟨rfl,rfl⟩
theorem lH:D5 93 14 (.bool true):=by
 intro w B h
 go_enter func93,ntmps93
 go_wp2
 refine wp_loop_rounds 1 ?_;rw[rounds_succ]
 go_wp2
 go_ret
 exact⟨rfl,rfl⟩
theorem RS:D5 60 15 (.tuple #[]):=by
 intro w B h
 go_enter func60,ntmps60
 go_wp2
 refine wp_loop_rounds 1 ?_;rw[rounds_succ]
 go_wp2
 go_end0
 exact⟨rfl,rfl⟩
theorem uS:D5 77 15 (.tuple #[]):=by
 intro w B h
 go_enter func77,ntmps77
 go_wp2
 refine wp_loop_rounds 1 ?_;rw[rounds_succ]
 go_wp2
 go_end0
 exact⟨rfl,rfl⟩
theorem wR:D5 94 15 (.bool true):=by
 intro w B h
 go_enter func94,ntmps94
 go_wp2
 refine wp_loop_rounds 1 ?_;rw[rounds_succ]
 go_wp2
 go_ret
 exact⟨rfl,rfl⟩
theorem UM:D5 61 16 (.tuple #[]):=by
 intro w B h
 go_enter func61,ntmps61
 go_wp2
 refine wp_loop_rounds 1 ?_;rw[rounds_succ]
 go_wp2
 go_end0
 exact⟨rfl,rfl⟩
theorem EM:D5 78 16 (.tuple #[]):=by
 intro w B h
 go_enter func78,ntmps78
 go_wp2
 refine wp_loop_rounds 1 ?_;rw[rounds_succ]
 go_wp2
 go_end0
 exact⟨rfl,rfl⟩
theorem YL:D5 95 16 (.bool true):=by
 intro w B h
 go_enter func95,ntmps95
 go_wp2
 refine wp_loop_rounds 1 ?_;rw[rounds_succ]
 go_wp2
 go_ret
 exact⟨rfl,rfl⟩
theorem OJ:D5 62 17 (.tuple #[]):=by
 intro w B h
 go_enter func62,ntmps62
 go_wp2
 refine wp_loop_rounds 1 ?_;rw[rounds_succ]
 go_wp2
 go_end0
 exact⟨rfl,rfl⟩
theorem LJ:D5 79 17 (.tuple #[]):=by
 intro w B h
 go_enter func79,ntmps79
 go_wp2
 refine wp_loop_rounds 1 ?_;rw[rounds_succ]
 go_wp2
 go_end0
 exact⟨rfl,rfl⟩
theorem BJ:D5 96 17 (.bool true):=by
 intro w B h
 go_enter func96,ntmps96
 go_wp2
 refine wp_loop_rounds 1 ?_;rw[rounds_succ]
 go_wp2
 go_ret
 exact⟨rfl,rfl⟩
theorem UO:D5 46 1 (.tuple #[]):=by
 intro w B h
 go_enter func46,ntmps46
 go_wp2
 refine wp_loop_rounds 1 ?_;rw[rounds_succ]
 go_wp2
 go_end0
 exact⟨rfl,rfl⟩
theorem KO:D5 63 1 (.tuple #[]):=by
 intro w B h
 go_enter func63,ntmps63
 go_wp2
 refine wp_loop_rounds 1 ?_;rw[rounds_succ]
 go_wp2
 go_end0
 exact⟨rfl,rfl⟩
theorem wO:D5 80 1 (.bool true):=by
 intro w B h
 go_enter func80,ntmps80
 go_wp2
 refine wp_loop_rounds 1 ?_;rw[rounds_succ]
 go_wp2
 go_ret
 exact⟨rfl,rfl⟩
abbrev TF:Value:=.tuple #[]
abbrev bkL:List (Nat×Nat×Value):=[(46,1,TF),(63,1,TF),(80,1,.bool true),(47,2,TF),(64,2,TF),(81,2,.bool true),(48,3,TF),(65,3,TF),(82,3,.bool true),(49,4,TF),(66,4,TF),(83,4,.bool true),(50,5,TF),(67,5,TF),(84,5,.bool true),(51,6,TF),(68,6,TF),(85,6,.bool true),(52,7,TF),(69,7,TF),(86,7,.bool true),(53,8,TF),(70,8,TF),(87,8,.bool true),(54,9,TF),(71,9,TF),(88,9,.bool true),(55,10,TF),(72,10,TF),(89,10,.bool true),(56,11,TF),(73,11,TF),(90,11,.bool true),(58,13,TF),(75,13,TF),(92,13,.bool true),(59,14,TF),(76,14,TF),(93,14,.bool true),(60,15,TF),(77,15,TF),(94,15,.bool true),(61,16,TF),(78,16,TF),(95,16,.bool true),(62,17,TF),(79,17,TF),(96,17,.bool true)]
theorem bkAll:∀x∈bkL,D5 x.1 x.2.1 x.2.2:=by
 simp only[bkL,List.forall_mem_cons];exact⟨UO,KO,wO,VS,wS,yR,MO,EO,uO,PS,nS,pR,PO,FO,vO,RJ,MJ,CJ,TS,vS,xR,TM,BM,XL,II,FI,xI,TJ,NJ,DJ,OM,yM,UL,WM,FM,bM,vH,uH,lH,RS,uS,wR,UM,EM,YL,OJ,LJ,BJ,fun _ h=>by cases h⟩
def bkF(f:Nat):Option (Nat×Value):=(bkL.find? fun x=>x.1==f).map (·.2)
theorem bkN{f i:Nat}{r:Value}(h:bkF f=some (i,r)):D5 f i r:=by
 unfold bkF at h
 cases hx:bkL.find? fun x=>x.1==f with
 |none=>rw[hx] at h;cases h
 |some x=>
  rw[hx] at h;obtain rfl:x.1=f:=by simpa using List.find?_some hx
  have h9:=bkAll x (List.mem_of_find?_eq_some hx);obtain⟨a,b,c⟩:=x;simp only[Option.map_some,Option.some.injEq,Prod.mk.injEq] at h;obtain⟨rfl,rfl⟩:=h;exact h9
end Go.Proofs.YtpkalgofejjggaaGreatDoor
