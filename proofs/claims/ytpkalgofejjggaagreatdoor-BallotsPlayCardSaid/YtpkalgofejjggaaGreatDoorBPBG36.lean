/- Layer 22 (ballots) -/
import Derived.Test.YtpkalgofejjggaaGreatDoorBPBG35
import Derived.Laws.CopyRow
set_option linter.unusedSimpArgs false
set_option linter.unusedVariables false
set_option maxHeartbeats 2000000
set_option maxRecDepth 20000
namespace Go.Proofs.YtpkalgofejjggaaGreatDoor
open Go.ChangeShapes Go.WideShapes Go.ChangeAt Go.RowKit Go.Proofs.Tryz
theorem key_parts:∃i z,prog.info? 88=some i/\i.zero=some z/\i.size=8/\i.bytes<=1000/\z.cells.size=8:=by
 have h:(prog.info? 88).any (fun i=>(i.zero.any (fun z=>z.cells.size==8))&&i.size==8&&Nat.ble i.bytes 1000)=true:=by kernel_rfl
 cases hi:prog.info? 88 with
 |none=>rw[hi] at h;cases h
 |some i=>
  rw[hi] at h;simp only[Option.any_some,Bool.and_eq_true,beq_iff_eq] at h;obtain⟨⟨h1,h2⟩,h3⟩:=h
  cases hz:i.zero with
  |none=>rw[hz] at h1;cases h1
  |some z=>
   rw[hz] at h1;simp only[Option.any_some,beq_iff_eq] at h1;exact⟨i,z,rfl,hz,h2,Nat.le_of_ble_eq_true h3,h1⟩
theorem Zy(ks:List (Nat×Nat)):(qo ks).length=ks.length*8:=by
 induction ks with
 |nil=>rfl
 |cons a l ih=>rw[qo,List.flatMap_cons,List.length_append,<-qo,ih];simp;omega
theorem xO(ks:List (Nat×Nat)):∀u∈qo ks,u.oneCell'=true:=fun u hu=>by
 unfold qo at hu;obtain⟨k,_,hk⟩:=List.mem_flatMap.1 hu;simp only[List.mem_cons,List.not_mem_nil,or_false] at hk
 rcases hk with rfl|rfl|rfl|rfl|rfl|rfl|rfl|rfl<;>rfl
theorem keys_at{w:World}{b o:Nat}{ks:List (Nat×Nat)}(h:Y4 w b o ks):w.rangeAt b o (qo ks):=fun j u hj=>by
 have hlt:=(List.getElem?_eq_some_iff.1 hj).1;rw[Zy] at hlt;obtain⟨k,hk⟩:∃k,ks[j/8]?=some k:=⟨_,Jd (by omega)⟩;obtain⟨h1,h2⟩:=h _ _ hk;obtain⟨g1,g2⟩:=Zn ks _ _ hk
 by_cases h4:j%8<4
 ·have e1:=h1 (j%8) h4;have e2:=g1 (j%8) h4;rw[show j/8*8+j%8=j by omega] at e2;rw[hj] at e2;rw[show o+j/8*8+j%8=o+j by omega] at e1;rw[e1,Option.some.inj e2]
 ·have e1:=h2 (j%8-4) (by omega);have e2:=g2 (j%8-4) (by omega);rw[show j/8*8+(4+(j%8-4))=j by omega] at e2;rw[hj] at e2;rw[show o+j/8*8+(4+(j%8-4))=o+j by omega] at e1;rw[e1,Option.some.inj e2]
theorem CloneK_any{b o n cap:Nat}{ks:List (Nat×Nat)}(hn:n=ks.length)(h0:0<n)(h7:n<=7)(w:World)(h:Y4 w b o ks):
  Calls prog 28 #[.slice (some ⟨b,o,none⟩) n cap] w fun r w'=>∃g o2 c2,r=.returned (.slice (some ⟨g,o2,none⟩) n c2)/\w.heap.size<=g/\Y4 w' g o2 ks/\Below w.heap.size w w':=by
 obtain⟨iv,zv,hiv,hzv,hv1,hv2,hv3⟩:=key_parts;have HI:=jh hiv;have HZ:=jh hzv;have HZ1:=jh hv1;have HZ2:=jh hv2;have HZ3:=jh hv3;have HKS:=jh h;have HN:=jh hn;have H7:=jh h7;have H0:=jh h0
 have hm:∀W,(binOp .eql 31 (.slice (some ⟨b,o,none⟩) n cap) (.slice none 0 0)).run prog W=.ok (.bool false) W:=fun W=>by
  simp only[binOp]
  simp[run_equal_slice_nil W _ _ _ _ _ underlying31]
 clear hiv hzv hv1 hv2 hv3 h hn h0 h7
 go_enter func28,ntmps28
 go_upto_region 3 with fail
 obtain⟨L,hL⟩:=je (qo ks)
 have hsrc:ZT (w.alloc (.cells #[] 88)) 8 (.slice (some ⟨b,o,none⟩) n cap) n L:=⟨_,_,rfl,by rw[hL,Zy,HN.out],by rw[hL];exact xO ks,(fun e=>by cases e),fun ad had j u hu=>by
  cases had
  rw[Addr.add_lit];rw[hL] at hu
  exact jj (keys_at HKS.out j u hu) (ja)⟩
 have yA:=jh hsrc;have HL:=jh hL;clear hsrc hL
 go_upto_region 3 with fail
 refine wp_region_lit ?_;refine qq (v:=.slice (some ⟨w.heap.size,0,none⟩) 0 0) (w':=w.alloc (.cells #[] 88)) rfl (by kernel_rfl) ?_;refine jL (.slice (some ⟨b,o,none⟩) n cap) ?_;refine jX rfl _ _ 31 rfl w.heap.size 88 iv zv 8 iv.bytes underlying31 HI.out HZ.out HZ1.out rfl HZ3.out (.slice (some ⟨w.heap.size,0,none⟩) 0 0) 0 [] rfl (own_empty w _ _) _ n L rfl yA.out (by have:=H7.out;unfold maxLen;omega) (by have h1:=H7.out;have h2:=HZ2.out;have h3:(0+n)*iv.bytes<=7*1000:=Nat.mul_le_mul (by omega) h2;omega) (by simp) ?_;intro v3 w3 ho3 hg3 hl3;obtain⟨a3,c3,rfl⟩:=ho3.sl;have UJ:=jh ho3;have mX:=jh hg3;simp only[Act.put,pa,pb,pc];clear ho3 hg3 hl3
 go_wp2_with fail
 go_ret
 have ho:=UJ.out;rw[Nat.zero_add,List.nil_append,HL.out] at ho;obtain⟨g,o2,c2,he,hk⟩:=OD ho HN.out H0.out;injection he with he1 he2 he3
 subst he1 he3;exact⟨g,o2,c3,by simp,(ho.lt g rfl).1,hk,((Below.refl _ w).alloc (Nat.le_refl _) _).grown mX.out (by simp) (fun q hq=>by cases hq;exact Nat.le_refl _)⟩
def Qz(k n:Nat):List Value:=List.replicate k (.int .i64 (-1))++List.replicate (n-k) (.int .i64 0)
theorem WI{k n:Nat}(h:k<=n):(Qz k n).length=n:=by simp[Qz];omega
theorem repL_zero(n:Nat):Qz 0 n=List.replicate n (.int .i64 0):=by simp[Qz]
theorem repL_all(n:Nat):Qz n n=List.replicate n (.int .i64 (-1)):=by simp[Qz]
theorem yP{k m n:Nat}(h:k+m<=n):(Qz k n).take k++List.replicate m (.int .i64 (-1))++(Qz k n).drop (k+m)=Qz (k+m) n:=by
 have hl:(List.replicate k (Value.int .i64 (-1))).length=k:=by simp
 unfold Qz;rw[List.take_append_of_le_length (by omega),List.take_of_length_le (by omega),List.drop_append,List.drop_of_length_le (by simp),List.length_replicate,List.nil_append,List.drop_replicate,List.replicate_append_replicate]
 congr 2
 omega
theorem repL_get{k n j:Nat}(h:j<k):(Qz k n)[j]?=some (.int .i64 (-1)):=by
 unfold Qz;rw[List.getElem?_append_left (by simpa using h),List.getElem?_replicate,if_pos h]
theorem one_src9{w:World}{b:Nat}{v:Value}(h:w.cell? ⟨b,0,none⟩=some v):∀(j:Nat) (u:Value),[v][j]?=some u->w.cell? ((⟨b,0,none⟩:Addr).add j)=some u:=fun j u hj=>by
 have hl:=(List.getElem?_eq_some_iff.1 hj).1;simp only[List.length_cons,List.length_nil] at hl;obtain rfl:j=0:=by omega
 rw[<-hj,Addr.add_lit];exact h
theorem rep_src{w:World}{g k n m:Nat}{t:TypeId}(h:w.heap[g]?=some (.cells (Qz k n).toArray t (0,0))) (hm:m<=k):∀(j:Nat) (u:Value),(List.replicate m (Value.int .i64 (-1)))[j]?=some u->w.cell? ((⟨g,0,none⟩:Addr).add j)=some u:=fun j u hj=>by
 rw[List.getElem?_replicate] at hj
 split at hj
 ·rename_i hjm
  have h9:=repL_get (k:=k) (n:=n) (j:=j) (by omega);rw[<-hj,Addr.add_lit,cell_of_row _ _ _ _ _ _ h]
  simpa using h9
 ·cases hj
theorem elemI:prog.underlying 92=some (.slice (prog.elem 92)):=by kernel_rfl
theorem sizeI(w:World):(sizeOf (prog.elem 92)).run prog w=.ok 1 w:=by
 have:prog.elem 92=2:=by kernel_rfl
 rw[this]
 go_simp
theorem sl_from{g k n:Nat}(hk:k<n)(W:World):(Instr.sliceAt 92 (.slice (some ⟨g,0,none⟩) n n) (some (.int .i64 k)) none none).run prog W=.ok (.slice (some ⟨g,k,none⟩) (n-k) (n-k)) W:=by
 rw[run_sliceAt_slice _ _ _ _ _ _ elemI,run_slice_l _ _ _ _ _ elemI .i64 k (by omega) (by omega),sizeI]
 simp[sliced]
 rw[if_neg (by omega)]
 simp[Addr.add]
 omega
theorem sl_to{g k n:Nat}(hk:k<=n)(W:World):(Instr.sliceAt 92 (.slice (some ⟨g,0,none⟩) n n) none (some (.int .i64 k)) none).run prog W=.ok (.slice (some ⟨g,0,none⟩) k n) W:=by
 rw[run_sliceAt_slice _ _ _ _ _ _ elemI,run_slice_h _ _ _ _ _ elemI .i64 k (by omega) (by omega),sizeI]
 simp[sliced,Addr.add]
theorem RG{P:Program}{o:Oper}{ev:Operand->Value}{w:World}{t:TypeId}{x:Operand}{lo hi:Option Operand}{v:Value}(ho:o.op=.slice t x lo hi none)(h:(Instr.sliceAt t (ev x) (lo.map ev) (hi.map ev) none).run P w=.ok v w):(execOp ev o).run P w=.ok (.value v) w:=by
 unfold execOp;simp only[ho];simp only[Sem.run_bind,Option.map_none,h,Result.andThen_ok]
 rfl
theorem iI{P:Program}{w:World}{ops:Array Oper}{rest:List Oper}{o:Oper}{a:Act}{Q:Exit->Act->World->Prop}(hgd:o.guard=none)(d s:Operand)(dT sT:TypeId)(ho:o.op=.call {callee:=.builtin .copy,args:=#[d,s],argTypes:=#[dT,sT]})
  (elem:TypeId) (g q dLen dCap:Nat) (ad:Addr) (sLen sCap:Nat) (cur:Array Value) (t:TypeId) (cs:List Value) (hd:a.eval d=.slice (some ⟨g,q,none⟩) dLen dCap) (hs9:a.eval s=.slice (some ad) sLen sCap)
  (hu:P.underlying dT=some (.slice elem)) (hs:(P.info? elem).map (·.size)=some 1)
  (hg:w.heap[g]?=some (.cells cur t (0,0))) (hn:cs.length=Nat.min sLen dLen)
  (hsrc:∀j v,cs[j]?=some v->w.cell? (ad.add j)=some v) (hfit:q+cs.length<=cur.size) (h1:∀v∈cs,v.oneCell'=true)
  (k:wpList P ops Q rest (a.put o.dst (goInt cs.length)) (w.setRow g (cur.toList.take q++cs++cur.toList.drop (q+cs.length)).toArray)):wpList P ops Q (o::rest) a w:=by
 refine wpList_plain hgd fun K hK=>?_
 have hr:=fun ty=>run_copy_row (P:=P) w dT sT ty elem g q dLen dCap ad sLen sCap cur t cs hu hs hg hn hsrc hfit h1
 unfold Oper.wp execOp;simp only[ho,resolve,invoke,builtin,Sem.run_bind,Sem.run_pure,Result.andThen_ok,List.map_toArray,List.map_cons,List.map_nil,hd,hs9,hr];exact hK _ _ k
theorem nO{P:Program}{w:World}{l:List Oper}{o:Oper}{a:Act}{K:Act->World->Prop}{Q:Exit->Act->World->Prop}{X:Prop}(hw:Region.wanted o (yielded l.toArray a.tmps)=true)(d s:Operand)(dT sT:TypeId)(ho:o.op=.call {callee:=.builtin .copy,args:=#[d,s],argTypes:=#[dT,sT]})
  (elem:TypeId) (g q dLen dCap:Nat) (ad:Addr) (sLen sCap:Nat) (cur:Array Value) (t:TypeId) (cs:List Value) (hd:a.eval d=.slice (some ⟨g,q,none⟩) dLen dCap) (hs9:a.eval s=.slice (some ad) sLen sCap)
  (hu:P.underlying dT=some (.slice elem)) (hs:(P.info? elem).map (·.size)=some 1)
  (hg:w.heap[g]?=some (.cells cur t (0,0))) (hn:cs.length=Nat.min sLen dLen)
  (hsrc:∀j v,cs[j]?=some v->w.cell? (ad.add j)=some v) (hfit:q+cs.length<=cur.size) (h1:∀v∈cs,v.oneCell'=true)
  (k:K (a.put o.dst (goInt cs.length)) (w.setRow g (cur.toList.take q++cs++cur.toList.drop (q+cs.length)).toArray)):
  if Region.wanted o (yielded l.toArray a.tmps)=true then Oper.wp P o a w K Q else X:=by
 rw[if_pos hw];have hr:=fun ty=>run_copy_row (P:=P) w dT sT ty elem g q dLen dCap ad sLen sCap cur t cs hu hs hg hn hsrc hfit h1
 unfold Oper.wp execOp;simp only[ho,resolve,invoke,builtin,Sem.run_bind,Sem.run_pure,Result.andThen_ok,List.map_toArray,List.map_cons,List.map_nil,hd,hs9,hr];exact k
theorem xZ{b n:Nat}(h1:1<=n)(h7:n<=7)(w:World)(h:w.heap[b]?=some (.cells #[.int .i64 (-1)] 2 (0,0))):
  Calls prog 29 #[.slice (some ⟨b,0,none⟩) 1 1,.int .i64 n] w fun r w'=>∃g,r=.returned (.slice (some ⟨g,0,none⟩) n n)/\w.heap.size<=g/\w'.heap[g]?=some (.cells (List.replicate n (.int .i64 (-1))).toArray 2 (0,0))/\Below w.heap.size w w':=by
 have CM:=jh (fun(W:World)=>by have h9:=Tryz.bits_Mul 1 n (by decide) (by omega) W;rewrite[Nat.one_mul,Nat.div_eq_of_lt (show n<18446744073709551616 by omega),Nat.mod_eq_of_lt (show n<18446744073709551616 by omega)] at h9;exact h9)
 have hmk:∀W,(Instr.makeSlice 92 (.int .i64 n) (.int .i64 n)).run prog W=.ok (.slice (some ⟨W.heap.size,0,none⟩) n n) (W.alloc (.cells (Qz 0 n).toArray 2)):=by
  intro W;obtain⟨i,hi,hz⟩:∃i,prog.info? 2=some i/\i.zero=some (.int .i64 0)/\i.size=1/\i.bytes=8:=⟨_,rfl,by kernel_rfl,by kernel_rfl,by kernel_rfl⟩;have e:=run_make (P:=prog) W 92 2 i (.int .i64 0) underlying92 hi hz.1 .i64 .i64 n n (by omega) (by omega) (by rw[hz.2.2];omega) (by omega);rw[e,hz.2.1,repL_zero,Int.toNat_natCast,SL]
 have HMK:=jh hmk;have H1:=jh h1;have HR:=jh h;have hnI:(n:Int)<=7:=by omega
 have hnI1:(1:Int)<=(n:Int):=by omega
 have E1:=jh (show IntKind.u64.wrap (n:Int)=(n:Int) by simp[IntKind.wrap,IntKind.bits,IntKind.signed];omega);have E2:=jh (show IntKind.i64.wrap (n:Int)=(n:Int) by simp[IntKind.wrap,IntKind.bits,IntKind.signed];omega);clear h h1 hmk;have d1:decide ((n:Int)<0)=false:=by simp
 have d2:decide ((9223372036854775807:Int)<(n:Int))=false:=by simp;omega
 have e1:=E1.out;have e2:=E2.out;have hmk:=HMK.out
 go_enter func29,ntmps29
 go_upto_region 7 with(first|(go_at_call 106;refine(CM.out _).mono ?_;rintro _ wm ⟨rfl,aC⟩;subst aC))
 obtain⟨w1,e9⟩:=je (wm.alloc (.cells (Qz 0 n).toArray 2));obtain⟨G,hG⟩:=je (wm.heap.size);have hb:=jc e9;have HG0:=jh (show w1.heap[G]?=some (.cells (Qz 0 n).toArray 2 (0,0)) by rw[e9,hG];exact jQ);rw[<-e9,<-hG];have HB:=jh hb;have WG:=jh (show wm.heap.size<=G by omega);have HRb:=jh (show w1.cell? ⟨b,0,none⟩=some (.int .i64 (-1)) from jj (cell_of_row wm b 0 _ _ (0,0) HR.out) hb);clear e9 hG hb hmk e1 e2;refine wp_region_lit ?_;refine jL (.slice (some ⟨G,0,none⟩) n n) ?_;refine jL (.slice (some ⟨b,0,none⟩) 1 1) ?_;refine iI rfl _ _ 92 92 rfl 2 G 0 n n ⟨b,0,none⟩ 1 1 (Qz 0 n).toArray 2 [.int .i64 (-1)] rfl rfl underlying92 (by kernel_rfl) HG0.out (by have:=H1.out;simp only[List.length_cons,List.length_nil];exact(Nat.min_eq_left (by omega)).symm) (one_src9 HRb.out) (by rw[List.size_toArray,WI (Nat.zero_le _)];have:=H1.out;simp;omega) (by simp[Value.oneCell']) ?_;have hst:=yP (k:=0) (m:=1) (n:=n) (by have:=H1.out;omega);simp only[List.replicate_one,List.replicate_succ,List.replicate_zero,Nat.zero_add,List.length_cons,List.length_nil] at hst⊢;rw[hst];clear hst;simp only[goInt,Act.put,pa,pb,pc];obtain⟨w2,e9⟩:=je (w1.setRow G (Qz 1 n).toArray);have HG2:=jh (show w2.heap[G]?=some (.cells (Qz 1 n).toArray 2 (0,0)) by rw[e9];exact setRow_heap _ _ _ _ _ _ HG0.out);have HB2:=jh (show Below wm.heap.size wm w2 by rw[e9];exact below_setRow HB.out WG.out _);rw[<-e9];clear e9
 go_wp2_with fail
 go_loopw [8] (fun v wr=>∃k:Nat,1<=k/\k<=n/\v=.int .i64 k/\Hid (wr.heap[G]?=some (.cells (Qz k n).toArray 2 (0,0)))/\Hid (Below wm.heap.size wm wr)) (fun v _=>n-(intOf v).toNat)
 case atStart=>exact⟨1,Nat.le_refl _,H1.out,rfl,HG2,HB2⟩
 case round=>
  obtain⟨k,hk1,hkn,rfl,HK,HBk⟩:=hrel
  by_cases hlt:k<n
  ·have O6:(k:Int)<(n:Int):=by omega
   obtain⟨m,hm⟩:=je (Nat.min k (n-k));have hmn:1<=m/\k+m<=n/\m<=k:=by rw[hm];simp only[Nat.min_def];split<;>omega
   have HM:=jh hm;have HMN:=jh hmn;have HK1:=jh (And.intro hk1 hlt);have E3:=jh (show IntKind.i64.wrap ((k:Int)+(m:Int))=((k+m:Nat):Int) by rw[show(k:Int)+(m:Int)=((k+m:Nat):Int) by omega];simp[IntKind.wrap,IntKind.bits,IntKind.signed];omega);clear hm hmn hk1 hkn hlt
   go_upto_region 9 with fail
   refine jJ (.take 0 (.take 1 (.take 2 (.take 3 (.take 4 (.take 5 (.take 6 (.step 7 (.take 8 (.take 9 .done)))))))))) (fun w8=>True) (by kernel_rfl) (by kernel_rfl) (fun _ _ _ _ _ h=>h) (trivial) (fun hHeld=>?_);obtain⟨w4,e9⟩:=je (wr.drew);have HK4:=jh (show w4.heap[G]?=some (.cells (Qz k n).toArray 2 (0,0)) by rw[e9];exact HK.out);have HB4:=jh (show Below wm.heap.size wm w4 by rw[e9];exact HBk.out.drew);rw[<-e9];clear e9
   iterate 3
    refine jz ?_
   refine jH (.slice (some ⟨G,k,none⟩) (n-k) (n-k)) rfl (fun w8 hSw=>RG rfl (sl_from HK1.out.2 _)) ?_;refine jz ?_;refine jz ?_;refine jH (.slice (some ⟨G,0,none⟩) k n) rfl (fun w8 hSw=>RG rfl (sl_to (Nat.le_of_lt HK1.out.2) _)) ?_;refine WT.step rfl (fun K hK=>?_);refine nO (by rfl) _ _ 92 92 rfl 2 G k (n-k) (n-k) ⟨G,0,none⟩ k n (Qz k n).toArray 2 (List.replicate m (.int .i64 (-1))) rfl rfl underlying92 (by kernel_rfl) HK4.out (by rw[List.length_replicate];exact HM.out) (rep_src HK4.out HMN.out.2.2) (by rw[List.length_replicate,List.size_toArray,WI (Nat.le_of_lt HK1.out.2)];exact HMN.out.2.1) (by intro u hu;rw[List.mem_replicate] at hu;rw[hu.2];rfl) ?_;have hst:=yP (k:=k) (m:=m) (n:=n) HMN.out.2.1;simp only[List.length_replicate,List.toList_toArray];rw[hst];clear hst;obtain⟨w5,e9⟩:=je (w4.setRow G (Qz (k+m) n).toArray);have HK5:=jh (show w5.heap[G]?=some (.cells (Qz (k+m) n).toArray 2 (0,0)) by rw[e9];exact setRow_heap _ _ _ _ _ _ HK4.out);have dO:=jh (show Below wm.heap.size wm w5 by rw[e9];exact below_setRow HB4.out WG.out _);rw[<-e9];clear e9;simp only[goInt];refine qD hK (trivial) (fun hHeld=>?_);clear hK K;refine jH (.int .i64 ((k+m:Nat):Int)) rfl (fun w8 hSw=>by have e9:=E3.out;simp[go_sem,e9]) ?_;refine jz ?_;refine WT.done ?_;clear hHeld
   go_wp2_with fail
   go_roundw
   case rel=>exact⟨k+m,by have:=HK1.out;omega,HMN.out.2.1,by go_num,HK5,dO⟩
   case measure=>simp[intOf];have h1:=HMN.out;have h2:=HK1.out;omega
  ·obtain rfl:k=n:=by omega
   clear hlt
   go_wp2_with fail
   go_ret
   exact⟨G,rfl,WG.out,by rw[<-repL_all];exact HK.out,HBk.out⟩
end Go.Proofs.YtpkalgofejjggaaGreatDoor
