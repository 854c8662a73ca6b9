/- Layer 5 (shas) -/
import Derived.Test.YtpkalgofejjggaaGreatDoorBPBG17
import Derived.Laws.AppendOwn
set_option linter.unusedSimpArgs false
set_option linter.unusedVariables false
set_option maxHeartbeats 3000000
set_option maxRecDepth 20000
namespace Go.Proofs.YtpkalgofejjggaaGreatDoor
open Go.ChangeShapes Go.WideShapes Go.ChangeAt Go.RowKit Go.Proofs.Tryz
theorem qq{P:Program}{ops:Array Oper}{rest:List Oper}{o:Oper}{a:Act}{w w':World}{Q:Exit->Act->World->Prop}{v:Value}(hgd:o.guard=none)(h:(execOp a.eval o).run P w=.ok (.value v) w')
  (k:wpList P ops Q rest (a.put o.dst v) w'):wpList P ops Q (o::rest) a w:=
 wpList_plain hgd fun _ hK=>by
  unfold Oper.wp;rw[h];exact hK _ _ k
def zeroSum:List Value:=.int .i64 0::(List.replicate 8 (.int .u32 0)++(List.replicate 64 (.int .u8 0)++[.int .u64 0]))
theorem FV:(prog.info? 331).map (·.size)=some 74:=by kernel_rfl
theorem sumC_one(st:S8)(R:List Nat)(n:Nat):(lF st R n).toArray.all (·.oneCell')=true:=all_oneCell_toArray fun v hv=>by
 unfold lF at hv;simp only[List.mem_cons,List.mem_append,List.not_mem_nil,or_false] at hv
 rcases hv with rfl|rfl|rfl|rfl|rfl|rfl|rfl|rfl|rfl|hv|rfl<;>first|rfl|exact Jx _ _ _ hv
theorem jV{P:Program}{ops:Array Oper}{rest:List Oper}{o:Oper}{a:Act}{w:World}{Q:Exit->Act->World->Prop}(hgd:o.guard=none)(ty:TypeId)(x y:Operand)(ho:o.op=.store ty x y)(g:Nat)(c T:Array Value)(t:TypeId)
  (hg:w.heap[g]?=some (.cells c t (0,0))) (hx:a.eval x=.pointer (some ⟨g,0,none⟩)) (hy:a.eval y=.agg T) (hi:(P.info? ty).map (·.size)=some T.size) (hc:c.size=T.size) (h1:T.all (·.oneCell')=true)
  (k:wpList P ops Q rest (a.put o.dst undef) (w.setRow g T)):wpList P ops Q (o::rest) a w:=
 wpList_plain hgd fun _ hK=>by
  unfold Oper.wp execOp;simp only[ho,hx,hy,Sem.run_bind,Instr.storeAt,Instr.sureAddr,Sem.run_pure,Result.andThen_ok,run_storeVar_row w g t ty c T hg hi hc h1];exact hK _ _ k
theorem flat_get:∀(l:List Nat) (q r:Nat),q<l.length->r<4->zK (l.flatMap (be 4)) (4*q+r)=zK l q/256^(3-r)%256
 |[],q,r,h,_=>absurd h (Nat.not_lt_zero q)
 |x::l,0,r,_,hr=>by
  unfold zK;rw[List.flatMap_cons,Nat.mul_zero,Nat.zero_add,List.getD_eq_getElem?_getD,List.getElem?_append_left (by rw[jI];exact hr),Jd (by rw[jI];exact hr),rZ 4 x r hr]
  rfl
 |x::l,q+1,r,h,hr=>by
  have ih:=flat_get l q r (by simpa using h) hr;unfold zK at ih⊢;rw[List.flatMap_cons,List.getD_eq_getElem?_getD,List.getElem?_append_right (by rw[jI];omega),jI,show 4*(q+1)+r-4=4*q+r by omega,<-List.getD_eq_getElem?_getD,ih]
  rfl
theorem shaOf_get(l:List Nat)(i:Nat)(hi:i<32):zK (zr l) i=zK (kY l).list (i/4)/256^(3-i%4)%256:=by
 have h:=flat_get (kY l).list (i/4) (i%4) (by unfold S8.list;simp;omega) (Nat.mod_lt _ (by decide));rw[Nat.div_add_mod] at h;exact h
def wL(l:List Nat)(i:Nat):List Nat:=l.take i++List.replicate (32-i) 0
theorem outK_set{l:List Nat}(hl:l.length=32){i:Nat}(hi:i<32):(jo .u8 (wL l i)).toArray.setIfInBounds i (.int .u8 (zK l i))=(jo .u8 (wL l (i+1))).toArray:=by
 have h8:(l.take i).length=i:=by rw[List.length_take];omega
 unfold wL;rw[show 32-i=(32-(i+1))+1 by omega,List.replicate_succ,List.take_add_one,ZP (by omega),qp,qp,qp,List.setIfInBounds_toArray]
 congr 1
 rw[List.set_append_right _ _ (by rw[js,h8];exact Nat.le_refl _),js,h8,Nat.sub_self]
 simp[jo]
theorem G5.nowQ{w:World}{S:Nat}{st:S8}{R:List Nat}{n:Nat}(h:G5 w S st R n){q:Nat}(hq:q<8):w.cell? ⟨S,1+q,none⟩=some (.int .u32 (zK st.list q)):=by
 obtain⟨k1,k2,k3,k4,k5,k6,k7,k8⟩:=h.now8
 rcases(show q=0∨q=1∨q=2∨q=3∨q=4∨q=5∨q=6∨q=7 by omega) with rfl|rfl|rfl|rfl|rfl|rfl|rfl|rfl<;>assumption
theorem fV{l:List Nat}(hl:l.length=32){i:Nat}(hi:i<=32):(wL l i).length=32:=by unfold wL;simp;omega
theorem outK_all{l:List Nat}(hl:l.length=32):wL l 32=l:=by unfold wL;rw[List.take_of_length_le (by omega)];simp
theorem row_cell{w:World}{g:Nat}{l:List Nat}{t:TypeId}(h:w.heap[g]?=some (.cells (jo .u8 l).toArray t (0,0))) {i:Nat} (hi:i<l.length):w.cell? ⟨g,i,none⟩=some (.int .u8 (zK l i)):=by
 rw[cell_of_row _ _ _ _ _ _ h]
 simp[qC,ZP hi]
theorem qR:(prog.info? 67).map (·.size)=some 32:=by kernel_rfl
def YS(k:Nat):List Nat:=128::List.replicate k 0
theorem endK_next(k:Nat):YS k++[0]=YS (k+1):=by unfold YS;rw[List.cons_append,<-List.replicate_succ']
theorem uP{w:World}{base:Nat}{e:TypeId}{v:Value}{n:Nat}{xs:List Value}(h:w.ownsRow base e 1 v n xs)(hn:0<n):∃g c,v=.slice (some ⟨g,0,none⟩) n c/\base<=g/\n<=c/\c<=maxLen:=by
 obtain⟨_,h2⟩:=h
 rcases h2 with⟨_,h2⟩|⟨g,cap,cur,h3,h4,h5,h6,h7,h8,h9⟩
 ·omega
 ·exact⟨g,cap,h3,h4,h6,h7⟩
theorem Hash_any{S:Nat}{l:List Nat}(w:World)(hs:X8 w S l)(hsz:l.length<=549755813888):
  Calls prog 233 #[.pointer (some ⟨S,0,none⟩)] w fun e w'=>e=.returned (.agg (jo .u8 (zr l)).toArray)/\Below w.heap.size w w':=by
 have HS:=jh hs;have HSL:=jh hs.lt;have HZ:=jh hsz;clear hs hsz
 go_enter func233,ntmps233
 go_upto_region 1 with fail
 obtain⟨w1,e1⟩:=je (w.alloc (.cells (Array.replicate 32 (.int .u8 0)) 67));have HO:=jh (show KA .u8 w1 w.heap.size 0 32 (fun _=>0) by rw[e1];exact KA.zero w 32 _ rfl _ _ rfl);have Y6:=jh (show Y0 w1 w.heap.size 32 by rw[e1];exact Y0.new _ _ _ _);have HB1:=jh (show Below w.heap.size w w1 by rw[e1];exact ja);have SA:=jh (show w1.heap.size=w.heap.size+1 by rw[e1];simp);have HRO:=jh (show w1.heap[w.heap.size]?=some (.cells (jo .u8 (wL (zr l) 0)).toArray 67 (0,0)) by rw[e1,heap_alloc_new];rfl);have h9:(w.alloc (.cells #[.int .u8 0,.int .u8 0,.int .u8 0,.int .u8 0,.int .u8 0,.int .u8 0,.int .u8 0,.int .u8 0,.int .u8 0,.int .u8 0,.int .u8 0,.int .u8 0,.int .u8 0,.int .u8 0,.int .u8 0,.int .u8 0,.int .u8 0,.int .u8 0,.int .u8 0,.int .u8 0,.int .u8 0,.int .u8 0,.int .u8 0,.int .u8 0,.int .u8 0,.int .u8 0,.int .u8 0,.int .u8 0,.int .u8 0,.int .u8 0,.int .u8 0,.int .u8 0] 67))=w1:=e1.symm;rw[h9];clear h9 e1;obtain⟨OO,KJ⟩:=je (w.heap.size);rw[<-KJ] at HO Y6 SA HRO⊢;have oC:=jh KJ;clear KJ;have fA:=jh (HS.out.later HB1.out);obtain⟨R,hraw,hRB,htk⟩:=fA.out;obtain⟨N,hN⟩:=je (l.length);obtain⟨st,hst⟩:=je (GK l (l.length/64));rw[<-hst,<-hN] at hraw;have FN:=jh hraw;have D6:=jh hN;have HZN:=jh (show N<=549755813888 by rw[hN];exact HZ.out);have c0:=hraw.made;have mD:=jh hRB;have HTK:=jh htk;have HST:=jh hst;clear hraw hRB htk hN hst
 go_upto_region 3 with fail
 refine wp_region_lit ?_
 iterate 2
  refine jL (jP S 0) ?_
 refine wpList_load_row rfl _ _ rfl S rfl _ _ _ _ FN.out.2 underlying331 rfl (by rw[FV];simp[Zd,FN.out.1]) ?_;refine qq (v:=.pointer (some ⟨w1.heap.size,0,none⟩)) (w':=w1.alloc (.cells zeroSum.toArray 331)) rfl (by kernel_rfl) ?_;refine jW rfl _ _ _ rfl _ _ rfl rfl (by rw[FV];simp[Zd,FN.out.1]) (by simp[Zd,FN.out.1,zeroSum]) (sumC_one _ _ _) ?_;obtain⟨w2,e2⟩:=je (w1.alloc (.cells (lF st R N).toArray 331));have HL:=jh (show X8 w2 w1.heap.size l from⟨R,⟨FN.out.1,by rw[e2,heap_alloc_new,HST.out,D6.out]⟩,mD.out,HTK.out⟩);have HB2:=jh (show Below w1.heap.size w1 w2 by rw[e2];exact ja);have WC:=jh (show w2.heap.size=w1.heap.size+1 by rw[e2];simp);rw[<-e2];clear e2 c0;obtain⟨LL,hLL⟩:=je (w1.heap.size);rw[<-hLL] at HL WC;have VF:=jh hLL;simp only[Act.put,pa,pb,pc,<-hLL];clear hLL;have c73:=(FN.out.later HB2.out).many;obtain⟨M,hM⟩:=je (8*N);have hMI:(8:Int)*(N:Int)=(M:Int):=by omega
 have hMb:M<=4398046511104:=by have:=HZN.out;omega
 have HM:=jh hM;clear hM
 have hmk:∀w,(Instr.makeSlice 138 (.int .i64 1) (.int .i64 64)).run prog w=.ok (.slice (some ⟨w.heap.size,0,none⟩) 1 64) (w.alloc (.cells (List.replicate 64 (Value.int .u8 0)).toArray 5)):=by
  intro w;obtain⟨i0,hi,hz0,hz1,hz2⟩:=info_parts KF;have e:=run_make (P:=prog) w 138 5 i0 (.int .u8 0) underlying138 hi hz0 .i64 .i64 1 64 (by omega) (by omega) (by rw[hz2];omega) (by omega);rw[e,hz1];exact congrArg (fun c=>Result.ok _ (w.alloc (.cells c _))) (SL .u8 64)
 go_upto_region 7 with fail
 obtain⟨w3,e3,HE,HB3⟩:∃w3,w3=_/\Hid (w3.ownsRow w2.heap.size 5 1 (.slice (some ⟨w2.heap.size,0,none⟩) 1 64) 1 (jo .u8 (YS 0)))/\Hid (Below w2.heap.size w2 w3):=
  ⟨w2.alloc (.cells (Value.int .u8 128::List.replicate 63 (.int .u8 0)).toArray 5),rfl,jh ⟨rfl,.inr ⟨w2.heap.size,64,_,rfl,Nat.le_refl _,jQ,by decide,by decide,by decide,by rfl⟩⟩,jh (ja)⟩
 have h9:w2.alloc (.cells #[.int .u8 128,.int .u8 0,.int .u8 0,.int .u8 0,.int .u8 0,.int .u8 0,.int .u8 0,.int .u8 0,.int .u8 0,.int .u8 0,.int .u8 0,.int .u8 0,.int .u8 0,.int .u8 0,.int .u8 0,.int .u8 0,.int .u8 0,.int .u8 0,.int .u8 0,.int .u8 0,.int .u8 0,.int .u8 0,.int .u8 0,.int .u8 0,.int .u8 0,.int .u8 0,.int .u8 0,.int .u8 0,.int .u8 0,.int .u8 0,.int .u8 0,.int .u8 0,.int .u8 0,.int .u8 0,.int .u8 0,.int .u8 0,.int .u8 0,.int .u8 0,.int .u8 0,.int .u8 0,.int .u8 0,.int .u8 0,.int .u8 0,.int .u8 0,.int .u8 0,.int .u8 0,.int .u8 0,.int .u8 0,.int .u8 0,.int .u8 0,.int .u8 0,.int .u8 0,.int .u8 0,.int .u8 0,.int .u8 0,.int .u8 0,.int .u8 0,.int .u8 0,.int .u8 0,.int .u8 0,.int .u8 0,.int .u8 0,.int .u8 0,.int .u8 0] 5)=w3:=e3.symm;rw[h9];clear h9 e3 hmk;obtain⟨z,hz⟩:=je (lI N);have HZZ:=jh hz;have hz2:z<64:=by rw[hz];unfold lI;omega
 have hz3:(N+1+z)%64=56:=by rw[hz];unfold lI;omega
 have hz4:∀k,k<z->(N+1+k)%64≠56:=fun k hk=>by rw[hz] at hk;unfold lI at hk;omega
 have HZ2:=jh hz2;have HZ3:=jh hz3;have HZ4:=jh hz4;have C73:=jh c73;clear hz hz2 hz3 hz4 c73;obtain⟨i0,hi,hz0,hz1,hz2⟩:=info_parts KF;have HI:=jh hi;clear hi
 go_loopg [5] z (fun g v wr=>∃k:Nat,g=z-k/\k<=z/\Hid (wr.ownsRow w2.heap.size 5 1 v (k+1) (jo .u8 (YS k)))/\Hid (Below w2.heap.size w2 wr))
 case atStart=>exact⟨0,rfl,Nat.zero_le _,HE,HB3⟩
 case round=>
  clear HE HB3;obtain⟨k,S9,hk,HE,HB3⟩:=hrel;obtain⟨g,cp,rfl,hgb,hgc,hcm⟩:=uP HE.out (Nat.succ_pos k);have c73:=jj C73.out HB3.out;obtain⟨ln,hln⟩:=je (k+1);have HLN:=jh hln;obtain⟨t,ht⟩:=je (N+ln);have htI:(N:Int)+(ln:Int)=(t:Int):=by omega
  have htb:t<=549755814000:=by have:=HZN.out;have:=HZ2.out;omega
  rw[<-hln] at HE⊢;have HGC:=jh hgc;have HGBB:=jh hgb;have HCM:=jh hcm;have hlb:ln<=64:=by have:=HZ2.out;omega
  have HK:=jh hk
  by_cases hlt:k<z
  ·have h56:¬(t:Int)%64=56:=by have:=HZ4.out k hlt;omega
   have G7:=jh hlt;have HTT:=jh ht;clear hln ht hgc hgb hcm hlt hk
   go_wp2_with (at_builtin;refine wpList_append_own _ rfl _ _ 138 rfl w2.heap.size 5 i0 (.int .u8 0) 1 1 underlying138 HI.out hz0 hz1 hz2 rfl (by decide) _ _ _ rfl (HE.out.alloc _) ⟨wr.heap.size,0,none⟩ 1 1 [.int .u8 0] rfl rfl (bH _ _ _) (one_one _) (by unfold maxLen;omega) (by omega) (by have:=HB3.out.size;simp only[World.size_alloc];omega) ?_;intro v' w4 hown2 hgrow _;have D9:=jh hown2;have HG2:=jh hgrow;clear hown2 hgrow)
   go_roundg (z-(k+1))
   case measure=>have:=G7.out;omega
   case rel=>exact⟨k+1,rfl,G7.out,jh (by have h9:=D9.out;rw[HLN.out] at h9;rw[<-endK_next,qp];exact h9),jh ((HB3.out.alloc HB3.out.size _).grown HG2.out (by have:=HB3.out.size;simp only[World.size_alloc];omega) (fun q hq=>(HE.out.lt q hq).1))⟩
  ·obtain rfl:k=z:=by omega
   have h56:(t:Int)%64=56:=by have:=HZ3.out;omega
   have HTT:=jh ht;clear hln ht hgc hgb hcm hlt hk S9
   go_wp2_with fail
   clear c73 h56
   go_loopw [5,42] (fun v j wr=>∃j':Nat,j'<=8/\j=.int .i64 j'/\wr.ownsRow w2.heap.size 5 1 v (k+1+j') (jo .u8 (YS k++(be 8 M).take j'))/\Below w2.heap.size w2 wr) (fun _ j _=>8-(intOf j).toNat)
   case atStart=>exact⟨0,Nat.zero_le _,rfl,by have h9:=HE.out;rw[HLN.out] at h9;simpa[HLN.out] using h9,HB3.out⟩
   case round=>
    obtain⟨j,hj,rfl,hown,hbel⟩:=hrel;have HP:=jh hown;have HC2:=jh hbel;clear hown hbel
    by_cases hj8:j<8
    ·obtain⟨j8,hj8e⟩:=je (8*j);obtain⟨sh,hsh⟩:=je (8*(7-j));have i1:(8:Int)*(j:Int)=(j8:Int):=by omega
     have i2:(56:Int)-(j8:Int)=(sh:Int):=by omega
     have hshb:sh<=56:=by omega
     have hjI:(j:Int)<8:=by omega
     have HSH:=jh hsh;have HJ:=jh hj8;have hk64:=HZ2.out;clear hsh hj8e hj8
     go_wp2_with (at_builtin;refine wpList_append_own _ rfl _ _ 138 rfl w2.heap.size 5 i0 (.int .u8 0) 1 1 underlying138 HI.out hz0 hz1 hz2 rfl (by decide) _ _ _ rfl (HP.out.alloc _) ⟨wr.heap.size,0,none⟩ 1 1 [.int .u8 ((M:Int)/2^sh%256)] rfl rfl (bH _ _ _) (one_one _) (by unfold maxLen;omega) (by omega) (by have:=HC2.out.size;simp only[World.size_alloc];omega) ?_;intro v' w4 hown2 hgrow _;have D9:=jh hown2;have HG2:=jh hgrow;clear hown2 hgrow)
     go_roundw
     case rel=>exact⟨j+1,HJ.out,by go_num,by
      rw[QE HJ.out,<-List.append_assoc,qp,show jo .u8 [M/256^(8-1-j)%256]=[.int .u8 ((M:Int)/2^sh%256)] by rw[HSH.out,EH,show 8-1-j=7-j by omega];rfl]
      exact D9.out,(HC2.out.alloc HC2.out.size _).grown HG2.out (by have:=HC2.out.size;simp only[World.size_alloc];omega) (fun q hq=>(HP.out.lt q hq).1)⟩
     case measure=>simp[intOf];have:=HJ.out;omega
    ·obtain rfl:j=8:=by omega
     obtain⟨E,hE⟩:=je (Jp N)
     have hE2:YS k++(be 8 M).take 8=E:=by
      rw[List.take_of_length_le (by rw[jI];exact Nat.le_refl _),hE];unfold YS Jp;rw[HZZ.out,HM.out]
      rfl
     have hP9:=HP.out;rw[hE2] at hP9;have hEl:k+1+8=E.length:=by have h7:=hP9.1;rw[js] at h7;omega
     rw[hEl] at hP9;obtain⟨g5,c5,rfl,hg5,_,_⟩:=uP hP9 (by omega)
     have hEb:qk E:=by
      rw[<-hE2];intro x hx
      rcases List.mem_append.1 hx with h7|h7
      ·unfold YS at h7
       rcases List.mem_cons.1 h7 with h7|h7
       ·omega
       ·rw[List.eq_of_mem_replicate h7];decide
      ·exact qN _ _ x (List.take_subset _ _ h7)
     have HW:=jh (pK wr (HL.out.later HC2.out) (F7.of_own hP9 rfl) (fun _ e=>by
      have e7:g5=LL:=by injection e
      have:=WC.out
      omega) hEb (by have:=HZ.out;have:=HZ2.out;omega))
     have HEE:=jh hE;have HEL:=jh hEl;clear hP9 hE hE2 hEb hg5 hEl hj
     go_wp2_with fail
     refine HW.out.mono ?_;rintro _ w5 ⟨rfl,hs5,hg5⟩;have HS5:=jh hs5;have a1:=SA.out;have a2:=WC.out;have a3:=oC.out;have a4:=VF.out;have a5:=HC2.out.size;have b2:=HB2.out.size
     have e9:∀q,some LL=some q->w.heap.size<=q:=fun q hq=>by
      injection hq with hq
      omega
     have e8:some OO≠some LL:=fun hq=>by
      injection hq with hq
      omega
     have dO:=jh ((jm (jm HB1.out HB2.out) HC2.out).grown hg5 (by omega) e9)
     have hrow:wr.heap[OO]?=some (.cells (jo .u8 (wL (zr l) 0)).toArray 67 (0,0)):=by
      have h7:=HRO.out;rw[HC2.out.block OO (by omega),HB2.out.block OO (by omega)];exact h7
     have HRW:=jh (show w5.heap[OO]?=some (.cells (jo .u8 (wL (zr l) 0)).toArray 67 (0,0)) by
      rw[hg5.block OO (by omega) e8]
      exact hrow)
     clear a1 a2 a3 a4 a5 b2 e9 e8;clear hs5 hg5 hrow HW HP HC2;obtain⟨R5,h51,_,_⟩:=HS5.out;have e5:GK (l++E) ((l++E).length/64)=kY l:=by rw[HEE.out,D6.out];rfl
     rw[e5] at h51;have H51:=jh h51;have dI:=jh (show∀j,zK (kY l).list j<2^32 from s8_lt (KQ _ _));clear h51 e5
     go_wp2_with fail
     obtain⟨n5,hn5⟩:=je ((l++E).length);rw[<-hn5] at H51;clear hn5
     go_loopw [57] (fun i wr=>∃i':Nat,i'<=32/\i=.int .i64 i'/\Hid (wr.heap[OO]?=some (.cells (jo .u8 (wL (zr l) i')).toArray 67 (0,0)))/\Hid (G5 wr LL (kY l) R5 n5)/\Hid (Below w.heap.size w wr)) (fun i _=>32-(intOf i).toNat)
     case atStart=>exact⟨0,Nat.zero_le _,rfl,HRW,H51,dO⟩
     case round=>
      obtain⟨i,hi32,rfl,HR,HQ,HB⟩:=hrel
      by_cases hlt:i<32
      ·obtain⟨q,hq⟩:=je (i/4);obtain⟨r,hr⟩:=je (i%4);obtain⟨r8,hr8⟩:=je (r*8);obtain⟨sh,hsh⟩:=je (8*(3-r));have i1:(i:Int)/4=(q:Int):=by omega
       have i2:(i:Int)%4=(r:Int):=by omega
       have i3:(r:Int)*8=(r8:Int):=by omega
       have i4:(24:Int)-(r8:Int)=(sh:Int):=by omega
       have hq8:q<8:=by omega
       have hqI:(q:Int)<8:=by omega
       have hr4:r<4:=by omega
       have hshb:sh<=24:=by omega
       have O6:(i:Int)<32:=by omega
       have cq:=HQ.out.nowQ hq8;have xl:=dI.out q;have hy:=shaOf_get l i hlt;rw[<-hq,<-hr] at hy
       generalize zK (kY l).list q=x at cq hy xl
       obtain⟨y,LY⟩:=je (zK (zr l) i);rw[<-LY] at hy;have hbv:(x:Int)/2^sh%256=(y:Int):=by rw[hsh,EH,hy]
       have HY:=jh LY;have G7:=jh hlt;have q0:=row_cell HR.out (i:=i) (by rw[fV (jY l) hi32];exact hlt);have f0:=frozen_of_row wr OO i _ _ HR.out;clear hy LY hq hr hr8 hsh hlt hi32
       go_wp2_with fail
       go_roundw
       case rel=>exact⟨i+1,G7.out,by go_num,jh (by rw[heap_setCell_same _ _ _ _ _ _ HR.out,HY.out,outK_set (jY l) G7.out]),jh (HQ.out.block (heap_setCell_other _ _ _ _ (by have:=SA.out;have:=VF.out;show LL≠OO;omega))),jh (HB.out.setCell (by have:=oC.out;show w.heap.size<=OO;omega) _)⟩
       case measure=>simp[intOf];have:=G7.out;omega
      ·obtain rfl:i=32:=by omega
       clear hlt
       go_upto_region 20 with fail
       refine wp_region_lit ?_;have hrow:=HR.out;rw[outK_all (jY l)] at hrow;have hsz:(prog.info? 67).map (·.size)=some (jo .u8 (zr l)).toArray.size:=by rw[qR];simp[js,jY]
       refine wpList_load_row rfl _ _ rfl OO rfl _ _ _ _ hrow underlying67 rfl hsz ?_;refine jV rfl _ _ _ rfl OO _ _ _ hrow rfl rfl hsz rfl (Jc _ _) ?_;obtain⟨w6,e6⟩:=je (wr.setRow OO (jo .u8 (zr l)).toArray);have hrow6:w6.heap[OO]?=some (.cells (jo .u8 (zr l)).toArray 67 (0,0)):=by rw[e6];exact setRow_heap wr OO _ _ _ _ hrow
       have hb6:Below w.heap.size w w6:=by rw[e6];exact below_setRow HB.out (by have:=oC.out;omega) _
       have kF:=jh hb6;have HR6:=jh hrow6;rw[<-e6];simp only[Act.put,pa,pb,pc];clear e6 hrow hrow6 hb6
       go_wp2_with fail
       refine bodyPost_ret (results_cell_row rfl _ w6 OO _ _ _ _ rfl HR6.out underlying67 rfl hsz) rfl ⟨rfl,kF.out⟩
end Go.Proofs.YtpkalgofejjggaaGreatDoor
