/- Layer 22 (ballots) -/
import Derived.Test.YtpkalgofejjggaaGreatDoorBPBG35
import Derived.Great.BuildSlice
set_option linter.unusedSimpArgs false
set_option linter.unusedVariables false
set_option maxHeartbeats 2000000
set_option maxRecDepth 20000
namespace Go.Proofs.YtpkalgofejjggaaGreatDoor
open Go.ChangeShapes Go.WideShapes Go.ChangeAt Go.RowKit Go.Proofs.Tryz
theorem QJ:∃i z,prog.info? 71=some i/\i.zero=some z/\i.size=44/\i.bytes<=1000/\z.cells.size=44:=by
 have h:(prog.info? 71).any (fun i=>(i.zero.any (fun z=>z.cells.size==44))&&i.size==44&&Nat.ble i.bytes 1000)=true:=by kernel_rfl
 cases hi:prog.info? 71 with
 |none=>rw[hi] at h;cases h
 |some i=>
  rw[hi] at h;simp only[Option.any_some,Bool.and_eq_true,beq_iff_eq] at h;obtain⟨⟨h1,h2⟩,h3⟩:=h
  cases hz:i.zero with
  |none=>rw[hz] at h1;cases h1
  |some z=>
   rw[hz] at h1;simp only[Option.any_some,beq_iff_eq] at h1;exact⟨i,z,rfl,hz,h2,Nat.le_of_ble_eq_true h3,h1⟩
theorem ClipV_any{ao:Option Addr}{n cap:Nat}(w:World)(h:n<=cap)(hc:cap<=maxLen):
  Calls prog 34 #[.slice ao n cap] w fun e w'=>e=.returned (.slice ao n n)/\w=w':=by
 have hc5:cap<=9223372036854775807:=by unfold maxLen at hc;omega
 clear hc
 go_enter func34,ntmps34
 go_wp2
 go_ret
 exact⟨rfl,rfl⟩
theorem O1.caps{w:World}{B:Nat}{e:TypeId}{size n:Nat}{xs:List Value}{a:Option Addr}{c:Nat}(h:O1 w B e size (.slice a n c) n xs):n<=c/\c<=maxLen:=by
 rcases h.2 with⟨h1,h2⟩|⟨g,o,cap,cur,h1,_,_,h2,h3,_⟩
 ·cases h1
  exact⟨Nat.le_refl _,Nat.zero_le _⟩
 ·cases h1
  exact⟨h2,h3⟩
theorem FU{w:World}{b:Nat}{L:List Value}{t:TypeId}(h:w.heap[b]?=some (.cells L.toArray t (0,0))) (hl:L.length=44) (h1:∀u∈L,u.oneCell'=true):ZT w 44 (.slice (some ⟨b,0,none⟩) 1 1) 1 L:=by
 refine⟨_,_,rfl,by omega,h1,(fun e=>by cases e),fun ad had j u hu=>?_⟩
 cases had
 rw[Addr.add_lit,Nat.zero_add,cell_of_row _ _ _ _ _ _ h]
 simpa using hu
theorem JA{L:List Value}{o:Oper}{ev:Operand->Value}{x:Operand}{W:World}(hl:L.length=44)(ho:o.op=.buildSlice 30 1 #[(0,x)])(hx:ev x=.agg L.toArray):
  (execOp ev o).run prog W=.ok (.value (.slice (some ⟨W.heap.size,0,none⟩) 1 1)) (W.alloc (.cells L.toArray 71)):=by
 obtain⟨iv,zv,hiv,hzv,hv1, -,hv3⟩:=QJ;have hf:=Great.fill_whole (s:=44) (by decide) [.agg L.toArray] ((Array.range (1*iv.size)).map (zv.cells[· %zv.cells.size]!)) (fun v hv=>by simp only[List.mem_singleton] at hv;subst hv;simp[Value.cells,hl]) (by simp[hv1]);have hr:=run_buildSlice (P:=prog) W 30 71 1 #[(0,.agg L.toArray)] L.toArray iv zv underlying30 hiv hzv (by rw[hv1];decide) (by rw[hv1];decide) (by rw[hv1];simpa[Value.cells,hv1] using hf);unfold execOp;simp only[ho]
 simp[hx,hr,Result.andThen]
theorem PX{E:List Bal.Bv}{k v i:Nat}{s:Bal.H32}:(List.range (i+1)).flatMap (fun j=>(Bal.at_ E k v (j+1)).filter fun x=>x.s=s)=(List.range i).flatMap (fun j=>(Bal.at_ E k v (j+1)).filter fun x=>x.s=s)++(Bal.at_ E k v (i+1)).filter fun x=>x.s=s:=by
 rw[List.range_succ,List.flatMap_append]
 simp
theorem BVotes_nil(k v:Nat)(T:Array Value)(hT:T.size=32)(w:World):
  Calls prog 11 #[.pointer none,.int .u8 k,.int .u32 v,.agg T] w fun r w'=>r=.returned (.slice none 0 0)/\Below w.heap.size w w':=by
 have kC:(prog.info? 67).map (·.size)=some T.size:=by rw[qR,hT]
 go_enter func11,ntmps11
 go_wp2_with (first|(go_at_call 31;refine(IE _).mono ?_;rintro _ _ ⟨rfl,rfl⟩))
 go_ret
 exact⟨rfl,ja⟩
theorem xQ(w:World):(zeroValue 30).run prog w=.ok (.slice none 0 0) w:=by kernel_rfl
def KD(E:List Bal.Bv)(k v:Nat)(s:Bal.H32)(i:Nat):List Bal.Bv:=(List.range i).flatMap fun j=>(Bal.at_ E k v (j+1)).filter fun x=>x.s=s
theorem lQ(E:List Bal.Bv)(k v n:Nat):(Bal.at_ E k v n).length<=E.length:=List.length_filter_le _ _
theorem BP(E:List Bal.Bv)(k v:Nat)(s:Bal.H32)(i:Nat):KD E k v s (i+1)=KD E k v s i++(Bal.at_ E k v (i+1)).filter fun x=>x.s=s:=PX
theorem XK(E:List Bal.Bv)(k v:Nat)(s:Bal.H32):∀i,(KD E k v s i).length<=i*E.length
 |0=>by simp[KD]
 |i+1=>by
  have h1:=XK E k v s i;have h2:=lQ E k v (i+1);have h3:=List.length_filter_le (fun x:Bal.Bv=>decide (x.s=s)) (Bal.at_ E k v (i+1));rw[BP,List.length_append,Nat.succ_mul];omega
theorem preV_le(E:List Bal.Bv)(k v:Nat)(s:Bal.H32)(j:Nat)(R:List Bal.Bv)(hR:R=Bal.at_ E k v (j+1))(q:Nat):(KD E k v s j++(R.take q).filter fun x=>decide (x.s=s)).length<=j*E.length+E.length:=by
 have h1:=XK E k v s j;have h2:=lQ E k v (j+1);have h3:=List.length_filter_le (fun x:Bal.Bv=>decide (x.s=s)) (R.take q);have h4:(R.take q).length<=R.length:=by simp;omega
 rw[<-hR] at h2;rw[List.length_append];omega
def JY:Array Value:=#[.int .u8 0,.int .u64 0,.int .u32 0,.int .u8 0,.int .u8 0,.int .u8 0,.int .u8 0,.int .u8 0,.int .u8 0,.int .u8 0,.int .u8 0,.int .u8 0,.int .u8 0,.int .u8 0,.int .u8 0,.int .u8 0,.int .u8 0,.int .u8 0,.int .u8 0,.int .u8 0,.int .u8 0,.int .u8 0,.int .u8 0,.int .u8 0,.int .u8 0,.int .u8 0,.int .u8 0,.int .u8 0,.int .u8 0,.int .u8 0,.int .u8 0,.int .u8 0,.int .u8 0,.int .u8 0,.int .u8 0,.int .u8 0,.int .u64 0,.int .u64 0,.int .u64 0,.int .u64 0,.int .u64 0,.int .u64 0,.int .u64 0,.int .u64 0]
theorem TN{bx gp gq gg gh n cap nb no mb fb fo fc ep base k v:Nat}{s:Bal.H32}{fa se:Int}{ks:List (Nat×Nat)}{C S:Bal.Bv->Nat}{f:Value->Option Value}{E:List Bal.Bv}(hE:E.length<=1000)(hn7:n<=7)(hk:k<256)(hv:v<4294967296)(w:World)(h:J7 w bx gp gq gg gh n cap nb no mb fb fo fc ep base fa se ks (qS ep C S) f E):
  Calls prog 11 #[.pointer (some ⟨bx,0,none⟩),.int .u8 k,.int .u32 v,.agg (jo .u8 (hsL s)).toArray] w fun r w'=>∃u,r=.returned u/\O1 w' w.heap.size 71 44 u (Bal.votesOf E n k v s).length ((Bal.votesOf E n k v s).flatMap (qS ep C S))/\Below w.heap.size w w':=by
 obtain⟨T,hT⟩:=je ((jo .u8 (hsL s)).toArray);have hTs:T.size=32:=by rw[hT];simp[js,qt]
 have kC:(prog.info? 67).map (·.size)=some T.size:=by rw[qR,hTs]
 obtain⟨iv,zv,hiv,hzv,hv1,hv2,hv3⟩:=QJ;have HI:=jh hiv;have HZ:=jh hzv;have HZ1:=jh hv1;have HZ2:=jh hv2;have HZ3:=jh hv3;have HH:=jh h;have HT:=jh hT;have VT:=jh kC;have HEL:=jh hE;have HKL:=jh hk;have DX:=jh hv;have HN7:=jh hn7;have HEQ:=jh (fun(y:Bal.H32) (W:World)=>dK y s W);obtain⟨w1,e1⟩:=je (w.alloc (.cells T 67));have hb1:=jc e1;have hr1:w1.heap[w.heap.size]?=some (.cells T 67 (0,0)):=by rw[e1];exact jQ
 obtain⟨SB,bC⟩:=je (w.heap.size);rw[<-bC] at hr1;have HB1:=jh hb1;have HR1:=jh hr1;have hcm:=jj h.mp hb1;have PZ:=jh (h.later hb1);rw[<-hT] at HEQ⊢;clear hiv hzv hv1 hv2 hv3 h hT hE hTs hb1 hr1 hk hv hn7
 go_enter func11,ntmps11
 go_upto_region 1 with fail
 rw[<-e1,<-bC];have HSB:=jh bC;clear e1 bC
 go_upto_region 3 with(first|(go_at_call 31;refine(JR _ hcm).mono ?_;rintro _ w2 ⟨rfl,hb⟩;have HB2:=jh hb;clear hb))
 have OZ:=jh (PZ.out.later HB2.out);have HR2:=jh ((HB2.out.block _ (J6.1 HR1.out).1).trans HR1.out);have HB:=jh (jm HB1.out HB2.out);have hnd:=OZ.out.set.nd;have hnc:n<=9223372036854775807:=by have:=HN7.out;omega
 clear hcm
 go_wp2_with fail
 clear hnd
 go_loopw [8,21] (fun o i wr=>∃j:Nat,j<=n/\i=.int .i64 j/\Hid (O1 wr w2.heap.size 71 44 o (KD E k v s j).length ((KD E k v s j).flatMap (qS ep C S)))/\Hid (Below w2.heap.size w2 wr)) (fun _ i _=>n-(intOf i).toNat)
 case atStart=>exact⟨0,Nat.zero_le _,rfl,jh ⟨rfl,.inl ⟨rfl,rfl⟩⟩,jh U3⟩
 case round=>
  obtain⟨j,hj,rfl,HO,HW⟩:=hrel;obtain⟨a0,c0,rfl⟩:=HO.out.shape9;obtain⟨m,hm⟩:=je ((KD E k v s j).length);rw[<-hm] at HO⊢;have vM:=jh hm;obtain⟨wo,rfl⟩:∃wo:World,wo=wr:=⟨_,rfl⟩
  by_cases hlt:j<n
  ·have HXr:=jh (OZ.out.later HW.out);obtain⟨kl,hkl⟩:=aH (k:=k) (v:=v) (n:=j+1) HKL.out DX.out (by have:=HN7.out;omega);have hrow:=OZ.out.rows.row k v (j+1);obtain⟨R,hR⟩:=je (Bal.at_ E k v (j+1));rw[<-hR] at hrow;obtain⟨rn,hrn⟩:=je (R.length);rw[<-hrn] at hrow;obtain⟨ra,rc,MV⟩:=hrow.shape9;rw[MV] at hrow;have HROW:=jh hrow;have bI:=jh hR;have HRN:=jh hrn;have RZ:=jh MV;have HKL9:=jh hkl;have O6:(j:Int)<(n:Int):=by omega
   have hj7:(j:Int)<=7:=by have:=HN7.out;omega
   have hrI:(rn:Int)<=1000:=by
    have h9:=List.length_filter_le (fun x:Bal.Bv=>decide (x.k=k/\x.v=v/\x.n=j+1)) E;have h8:=HEL.out;rw[hrn,hR];unfold Bal.at_;omega
   have G7:=jh hlt;have HJ:=jh hj;have E8:IntKind.u8.wrap ((j:Int)+1)=((j+1:Nat):Int):=by simp[IntKind.wrap,IntKind.bits,IntKind.signed];omega
   have E64:IntKind.i64.wrap ((j:Int)+1)=(j:Int)+1:=by simp[IntKind.wrap,IntKind.bits,IntKind.signed];omega
   clear hrow hR hrn MV hkl hlt hm hj
   go_upto_region 6 with fail
   refine wp_region_lit ?_
   iterate 2
    refine jL (jP bx 0) ?_
   refine jL (jP bx 20) ?_;refine jL (.map (some mb)) ?_ (jd (dM HXr.out.mp));refine jL (.int .u8 k) ?_;refine jL (.int .u32 v) ?_;refine jL (.int .i64 j) ?_;refine jL (.int .i64 ((j:Int)+1)) ?_ (by simp[go_sem,E64]);refine jL (.int .u8 ((j+1:Nat):Int)) ?_ (by simp[go_sem,E8]);refine jL (qE k v (j+1)) ?_;refine ZW _ rfl _ _ 91 rfl 99 30 QR underlying91 (.slice none 0 0) (xQ _) mb f (by kernel_rfl) HXr.out.map _ kl (by kernel_rfl) HKL9.out ?_;rw[RZ.out];simp only[Act.put,pa,pb,pc];clear E8 E64
   go_wp2_with fail
   go_loopw [8,36] (fun o i wr=>∃q:Nat,q<=rn/\i=.int .i64 q/\Hid (O1 wr w2.heap.size 71 44 o (KD E k v s j++(R.take q).filter fun x=>x.s=s).length ((KD E k v s j++(R.take q).filter fun x=>x.s=s).flatMap (qS ep C S)))/\Hid (Below w2.heap.size w2 wr)) (fun _ i _=>rn-(intOf i).toNat)
   case atStart=>exact⟨0,Nat.zero_le _,rfl,jh (by rw[List.take_zero,List.filter_nil,List.append_nil,<-vM.out];exact HO.out),jh HW.out⟩
   case round=>
    obtain⟨q,hq,rfl,D9,HW2⟩:=hrel;obtain⟨a2,c2,rfl⟩:=D9.out.shape9;obtain⟨m2,hm2⟩:=je ((KD E k v s j++(R.take q).filter fun x=>x.s=s).length);rw[<-hm2] at D9⊢;have hm29:=jh hm2
    by_cases hlt2:q<rn
    ·have hltJ:(q:Int)<(rn:Int):=by omega
     obtain⟨x,hx⟩:∃x,R[q]?=some x:=⟨_,Jd (by rw[<-HRN.out];exact hlt2)⟩;obtain⟨rb,ro,rc9,hre,hva⟩:=Qa HROW.out (by omega);injection hre with hre _ _
     subst hre;have aU:=jh (hva.at (ql _ _ _) hx)
     have hm1:m2+1<=100000:=by
      have h9:=preV_le E k v s j R bI.out q;have h8:=HEL.out;have h7:=HN7.out;have h6:=G7.out;have h5:j*E.length<=7*1000:=Nat.mul_le_mul (by omega) h8;omega
     obtain⟨L,hL⟩:=je (qS ep C S x);have UD:L.length=44:=by rw[hL];exact ql _ _ _ _
     have h1L:∀u∈L,u.oneCell'=true:=by rw[hL];exact LG _ _ _ _
     have LV:=NP (ju (ju aU.out U3) HW2.out) (ql _ _ _ _);rw[<-hL] at LV;have hszL:(prog.info? 71).map (·.size)=some L.toArray.size:=by rw[qg];simp[UD]
     have LV:=jh LV;have aO:=jh UD;have H1L:=jh h1L;have HSZL:=jh hszL;have HXQ:=jh hx;have VF:=jh hL;have HR2r:=jh ((HW2.out.block _ (J6.1 HR2.out).1).trans HR2.out);have HQ:=jh hlt2;have KN:=jh hm1;clear hx hlt2 hm1 hL UD h1L hszL hva hm2 hq
     go_upto_region 8 with fail
     refine wp_region_lit ?_;refine jL (jP rb (ro+q*44)) ?_ (by simp[go_sem,hltJ]);refine jL _ ?_ (jd LV.out);refine qq (v:=.pointer (some ⟨wr.heap.size,0,none⟩)) (w':=wr.alloc (.cells JY 71)) rfl (by kernel_rfl) ?_;simp only[Act.put,pa,pb,pc];refine jW rfl _ _ _ rfl JY L.toArray rfl rfl HSZL.out (by simp[aO.out,JY]) (all_oneCell_toArray H1L.out) ?_;simp only[Act.put,pa,pb,pc]
     go_upto_region 9 with fail
     obtain⟨x1,VB,e9,h9,hb⟩:=qJ wr (.cells L.toArray 71);have HV:=jh (show x1.heap[VB]?=some (.cells L.toArray 71 (0,0)) by rw[e9,h9];exact jQ);rw[<-e9,<-h9];have HR3:=jb hb HR2r;have HW3:=jw HW2 hb;have UJ:=jh (O1.later D9.out hb);clear e9 h9 hb;have ls:=JO (w:=x1) (b:=VB) (o:=0) (k:=x.k) (e:=ep) (v:=x.v) (n:=x.n) (h:=hsL x.s) (c:=C x) (s:=S x) (by have h9:=qL HV.out;rw[VF.out] at h9;exact h9) (qt _);obtain⟨U,hU⟩:=je ((jo .u8 (hsL x.s)).toArray);have HEx:=jh (fun(W:World)=>HEQ.out x.s W);rw[<-hU] at ls HEx;have LS:=jh ls;clear ls hU;refine wp_region_lit ?_;refine jL (jP VB 4) ?_;refine jL _ ?_ (jd LS.out);refine jL _ ?_ (jd (qO HR3.out underlying67 rfl VT.out))
     by_cases hxs:x.s=s
     ·rw[decide_eq_true hxs] at HEx;have HXS:=jh hxs;clear hxs;refine zu (v:=.bool true) rfl (qB XD rfl (by kernel_rfl) (by kernel_rfl) (HEx.out _)) ?_;simp only[Act.put,pa,pb,pc]
      go_upto_region 10 with fail
      refine wp_region_lit ?_;refine jL (.slice a2 m2 c2) ?_;refine jL _ ?_ (jd (qO HV.out underlying71 rfl HSZL.out));refine qq (v:=.slice (some ⟨x1.heap.size,0,none⟩) 1 1) (w':=x1.alloc (.cells L.toArray 71)) rfl (JA aO.out rfl rfl) ?_;simp only[Act.put,pa,pb,pc];obtain⟨y1,AB,e9,h9,hb⟩:=qJ x1 (.cells L.toArray 71);have HA:=jh (show y1.heap[AB]?=some (.cells L.toArray 71 (0,0)) by rw[e9,h9];exact jQ);rw[<-e9,<-h9];have BN:=jw HW3 hb;have vJ:=jh (O1.later UJ.out hb);clear e9 h9 hb;refine jX rfl _ _ 30 rfl w2.heap.size 71 iv zv 44 iv.bytes underlying30 HI.out HZ.out HZ1.out rfl HZ3.out (.slice a2 m2 c2) m2 _ rfl vJ.out _ 1 L rfl (FU HA.out aO.out H1L.out) (by have:=KN.out;unfold maxLen;omega) (by have h1:=KN.out;have h2:=HZ2.out;have h3:(m2+1)*iv.bytes<=100000*1000:=Nat.mul_le_mul h1 h2;omega) BN.out.size ?_;intro v3 w3 ho3 hg3 hl3;obtain⟨a3,c3,rfl⟩:=ho3.sl;have HO5:=jh ho3;have HW5:=jh (BN.out.grown hg3 BN.out.size (fun g hg=>(vJ.out.lt g hg).1));simp only[Act.put,pa,pb,pc];clear ho3 hg3 hl3
      go_wp2_with fail
      go_roundw
      case rel=>exact⟨q+1,HQ.out,by go_num,jh (by
       have h9:=HO5.out
       have e1:(KD E k v s j++(R.take (q+1)).filter fun x=>decide (x.s=s))=(KD E k v s j++(R.take q).filter fun x=>decide (x.s=s))++[x]:=by
        rw[List.take_add_one,HXQ.out,List.filter_append]
        simp[HXS.out]
       have e2:=hm29.out;rw[e1,List.length_append,List.flatMap_append,<-e2]
       simpa[<-VF.out] using h9),HW5⟩
      case measure=>simp[intOf];have:=HQ.out;omega
     ·rw[decide_eq_false hxs] at HEx;have HXS:=jh hxs;clear hxs;refine zu (v:=.bool false) rfl (qB XD rfl (by kernel_rfl) (by kernel_rfl) (HEx.out _)) ?_;simp only[Act.put,pa,pb,pc]
      go_wp2_with fail
      go_roundw
      case rel=>exact⟨q+1,HQ.out,by go_num,jh (by
       have h9:=UJ.out;rw[List.take_add_one,HXQ.out]
       simpa[HXS.out,<-hm29.out] using h9),HW3⟩
      case measure=>simp[intOf];have:=HQ.out;omega
    ·obtain rfl:q=rn:=by omega
     clear hlt2
     go_wp2_with fail
     go_roundw
     case rel=>exact⟨j+1,G7.out,by go_num,jh (by
      have h9:=D9.out;have e:=hm29.out;have e1:(KD E k v s j++(R.take q).filter fun x=>decide (x.s=s))=KD E k v s (j+1):=by rw[HRN.out,List.take_length,bI.out,<-BP]
      rw[e1] at h9 e;rw[<-e]
      exact h9),HW2⟩
     case measure=>simp[intOf];have:=G7.out;omega
  ·obtain rfl:j=n:=by omega
   have hcp:=HO.out.caps;have YN:=vM;clear hlt hm
   go_wp2_with (first|(go_at_call 34;refine(ClipV_any _ hcp.1 hcp.2).mono ?_;rintro _ _ ⟨rfl,rfl⟩))
   go_ret
   have e1:KD E k v s j=Bal.votesOf E j k v s:=rfl;refine⟨_,rfl,?_,jm HB.out HW.out⟩;rw[<-e1,<-YN.out];exact(O1.clip HO.out).base HB.out.size
open Classical in
theorem EU{P:Program}{w:World}{l:List Oper}{o:Oper}{a:Act}{K:Act->World->Prop}{Q:Exit->Act->World->Prop}{X:Prop}(hw:Region.wanted o (yielded l.toArray a.tmps)=true)(m x v:Operand)(t:TypeId)(hop:o.op=Op.mapUpdate t m x v)
  (k e:TypeId) (K9:Maps.Keyed P k) (ht:P.underlying t=some (.map k e)) (b:Nat) (f:Value->Option Value)
  (hm:a.eval m=.map (some b)) (h:LC w P k b f) (key val:Value) (kl:Lit) (hx:a.eval x=key) (hv:a.eval v=val) (hkey:keyOf P k key=some kl)
  (hK:∀w',LC w' P k b (fun q=>if q=key then some val else f q)->w.grownBy w' (some b)->K (a.put o.dst undef) w'):
  if Region.wanted o (yielded l.toArray a.tmps)=true then Oper.wp P o a w K Q else X:=by
 rw[if_pos hw];obtain⟨w',hrun,r1,r2⟩:=h.store (val:=val) K9 ht hkey;unfold Oper.wp
 simp[execOp,hop,hm,hx,hv,hrun,Result.andThen]
 exact hK w' r1 r2
theorem SG{P:Program}{w:World}{o:Oper}{ev:Operand->Value}{t k e:TypeId}{m x:Operand}{z:Value}{b:Nat}{f:Value->Option Value}{key:Value}{kl:Lit}(hop:o.op=Op.lookup t m x false)(K:Maps.Keyed P k)(ht:P.underlying t=some (.map k e))(hz:(zeroValue e).run P w=.ok z w)
  (hm:ev m=.map (some b)) (h:LC w P k b f) (hx:ev x=key) (hkey:keyOf P k key=some kl):(execOp ev o).run P w=.ok (.value ((f key).getD z)) w:=by
 have hrun:=h.look K ht hz hkey
 simp[execOp,hop,hm,hx,hrun,Result.andThen]
theorem farL_put{E:List Bal.Bv}{n i:Nat}{x:Bal.Bv}(hi:x.n=i+1):(xH E n).set i (.int .i64 (if(x.v:Int)>Bal.farOf E x.n then(x.v:Int) else Bal.farOf E x.n))=xH (Bal.bput E x) n:=by
 apply List.ext_getElem?
 intro j
 by_cases hj:j<n
 ·rw[XM hj,Bal.far_bput]
  by_cases hij:i=j
  ·subst hij;rw[List.getElem?_set_self (by rw[Zi];exact hj),if_pos hi,hi]
   congr 2
   split<;>omega
  ·rw[List.getElem?_set_ne hij,XM hj,if_neg (by omega)]
 ·rw[List.getElem?_eq_none (by simp[Zi];omega),List.getElem?_eq_none (by simp[Zi];omega)]
theorem far_put{w:World}{g o cap n i:Nat}{E:List Bal.Bv}{x:Bal.Bv}(hi:x.n=i+1)(h:O1 w 0 2 1 (.slice (some ⟨g,o,none⟩) n cap) n (xH E n)):
  O1 (w.setCell ⟨g,o+i,none⟩ (.int .i64 (if(x.v:Int)>Bal.farOf E x.n then(x.v:Int) else Bal.farOf E x.n))) 0 2 1 (.slice (some ⟨g,o,none⟩) n cap) n (xH (Bal.bput E x) n):=by
 rw[<-farL_put hi];exact h.put9 _
section
variable {wa wb wc wd:World}{bx gp gq gg gh n cap nb no mb fb fo fc ep base:Nat}{fa se:Int}{ks:List (Nat×Nat)}{vv:Bal.Bv->List Value}{f:Value->Option Value}{E:List Bal.Bv}
open Classical in
theorem J7.put(h:J7 wa bx gp gq gg gh n cap nb no mb fb fo fc ep base fa se ks vv f E)(x:Bal.Bv)(hx:x∉E){v':Value}
  (hown:O1 wb base 71 44 v' ((Bal.at_ E x.k x.v x.n).length+1) ((Bal.at_ E x.k x.v x.n).flatMap vv++vv x))
  (hgr:wa.grownBy wb ((f (qE x.k x.v x.n)).getD (.slice none 0 0)).ownBlock) (hl:Lies wa wb ((f (qE x.k x.v x.n)).getD (.slice none 0 0)) v' (Bal.at_ E x.k x.v x.n).length 1)
  (hmap:LC wc prog 99 mb (fun q=>if q=qE x.k x.v x.n then some v' else f q)) (hg2:wb.grownBy wc (some mb))
  (hfar:O1 wd 0 2 1 (.slice (some ⟨fb,fo,none⟩) n fc) n (xH (Bal.bput E x) n)) (hg3:wc.grownBy wd (some fb)):
  ∃f2,J7 wd bx gp gq gg gh n cap nb no mb fb fo fc ep base fa se ks vv f2 (Bal.bput E x)/\Turn wa wd mb fb f/\∀g,Zs f2 g->Zs f g∨wa.heap.size<=g:=by
 have iC:x∉Bal.at_ E x.k x.v x.n:=fun e=>hx (Bal.mem_at.1 e).1
 have r1:=h.rows.put x iC hown hgr hl;have r2:=r1.other h.lt.2.2.1 hg2;have r3:=r2.other h.lt.2.2.2 hg3;have hrow:∀g,((f (qE x.k x.v x.n)).getD (.slice none 0 0)).ownBlock=some g->base<=g:=fun g hg=>(h.rows.lt ⟨_,_,_,hg⟩).1
 have lo:∀b,b<base->b≠mb->b≠fb->wd.heap[b]?=wa.heap[b]?:=fun b hb h1 h2=>by
  have s1:=jv hb h.bs;have s2:=jv s1 hgr.size;have s3:=jv s2 hg2.size;rw[hg3.block b s3 (fun e=>h2 (by injection e)),hg2.block b s2 (fun e=>h1 (by injection e)),hgr.block b s1 (fun e=>by have:=hrow b e.symm;omega)]
 have hmw:wd.heap[mb]?=wc.heap[mb]?:=hg3.block mb (jv h.lt.2.2.1 (Nat.le_trans h.bs (Nat.le_trans hgr.size hg2.size))) (fun e=>h.ne.2.2.2.2 (by injection e with e;exact e.symm))
 refine⟨fun q=>if q=qE x.k x.v x.n then some v' else f q,⟨h.set.block (lo _ h.lt.1 (Ne.symm h.ne.1) (Ne.symm h.ne.2.2.1)),zQ h.epo (lo _ h.lt.1 (Ne.symm h.ne.1) (Ne.symm h.ne.2.2.1)),zQ h.mp (lo _ h.lt.1 (Ne.symm h.ne.1) (Ne.symm h.ne.2.2.1)),zQ h.fr (lo _ h.lt.1 (Ne.symm h.ne.1) (Ne.symm h.ne.2.2.1)),
  h.keys.block (lo _ h.lt.2.1 (Ne.symm h.ne.2.1) (Ne.symm h.ne.2.2.2.1)),hmap.block hmw,r3,hfar,h.lt,h.ne,Nat.le_trans h.bs (Nat.le_trans hgr.size (Nat.le_trans hg2.size hg3.size))⟩,⟨hg3.os.trans (hg2.os.trans hgr.os),hg3.tape.trans (hg2.tape.trans hgr.tape),hg3.output.trans (hg2.output.trans hgr.output),Nat.le_trans hgr.size (Nat.le_trans hg2.size hg3.size),fun b hb h1 h2 h3=>?_⟩,?_⟩
 ·have s2:=jv hb hgr.size;have s3:=jv s2 hg2.size;rw[hg3.block b s3 (fun e=>h2 (by injection e)),hg2.block b s2 (fun e=>h1 (by injection e)),hgr.block b hb (fun e=>h3 ⟨_,_,_,e.symm⟩)]
 ·rintro g ⟨k,v,m,hg⟩
  by_cases hk:qE k v m=qE x.k x.v x.n
  ·simp only[hk,if_true,Option.getD_some] at hg
   rcases hl with⟨g9,o9,c9,e1,e2⟩|⟨e1,_⟩|⟨e1,_⟩
   ·rw[e2] at hg;exact .inl ⟨x.k,x.v,x.n,by rw[e1];exact hg⟩
   ·rw[e1] at hg;injection hg with hg
    exact .inr (Nat.le_of_eq hg)
   ·exact absurd e1 (by decide)
  ·simp only[hk,if_false] at hg;exact .inl ⟨k,v,m,hg⟩
theorem Turn.after{w w':World}(h:Below w.heap.size w wa)(ht:Turn wa w' mb fb f):Turn w w' mb fb f:=
 ⟨ht.os.trans h.os,ht.tape.trans h.tape,ht.output.trans h.output,Nat.le_trans h.size ht.size,fun i hi h1 h2 h3=>(ht.block i (jv hi h.size) h1 h2 h3).trans (h.block i hi)⟩
end
theorem XI{E:List Bal.Bv}{x:Bal.Bv}:(Bal.at_ E x.k x.v x.n).any (fun y=>decide (y.s=x.s))=decide (x∈E):=by
 by_cases h:x∈E
 ·rw[decide_eq_true h,List.any_eq_true];exact⟨x,Bal.mem_at.2 ⟨h,rfl,rfl,rfl⟩,by simp⟩
 ·rw[decide_eq_false h,List.any_eq_false];intro y hy;obtain⟨h1,h2,h3,h4⟩:=Bal.mem_at.1 hy;simp only[decide_eq_true_eq];intro e
  apply h
  have:y=x:=by
   cases y
   cases x
   simp_all
  rw[<-this];exact h1
theorem MF{w w1 w2:World}{r:Option Nat}(h:Below w.heap.size w w1)(h2:w1.grownBy w2 r):w.grownBy w2 r:=⟨h2.os.trans h.os,h2.tape.trans h.tape,h2.output.trans h.output,Nat.le_trans h.size h2.size,fun k hk hne=>(h2.block k (jv hk h.size) hne).trans (h.block k hk)⟩
theorem BPut_nil(V:Array Value)(hV:V.size=44)(w:World):
  Calls prog 9 #[.pointer none,.agg V] w fun r w'=>r=.returned (.tuple #[.bool false,.int .i64 2])/\Below w.heap.size w w':=by
 have N9:(prog.info? 71).map (·.size)=some V.size:=by rw[qg,hV]
 go_enter func9,ntmps9
 go_wp2_with (first|(go_at_call 31;refine(IE _).mono ?_;rintro _ _ ⟨rfl,rfl⟩))
 go_ret2
 exact⟨rfl,ja⟩
theorem BPut_epoch{bx gp gq gg gh n cap nb no mb fb fo fc ep base:Nat}{fa se:Int}{ks:List (Nat×Nat)}{f:Value->Option Value}{E:List Bal.Bv}{vv:Bal.Bv->List Value}{k e v nd c s:Nat}{h9:List Nat}(hl:h9.length=32)(hne:e≠ep)(w:World)(h:J7 w bx gp gq gg gh n cap nb no mb fb fo fc ep base fa se ks vv f E):
  Calls prog 9 #[.pointer (some ⟨bx,0,none⟩),qU k e v nd h9 c s] w fun r w'=>r=.returned (.tuple #[.bool false,.int .i64 1])/\Below w.heap.size w w':=by
 have fF:=jh (show¬(e:Int)=(ep:Int) by omega);obtain⟨L,hL⟩:=je (jM k e v nd h9 c s);have UD:L.length=44:=by rw[hL];exact qz hl
 have N9:(prog.info? 71).map (·.size)=some L.toArray.size:=by rw[qg];simp[UD]
 have VF:=jh hL;have aO:=jh UD;have HX:=jh h;obtain⟨LA,SC⟩:=je (L.toArray);have MN:=jh SC;unfold qU;rw[<-hL,<-SC];rw[<-SC] at N9;have I7:=jh N9;clear h hL UD SC hl hne
 go_enter func9,ntmps9
 go_upto_region 1 with fail
 obtain⟨v_1,e1⟩:=je (w.alloc (.cells LA 71));obtain⟨VB,lD⟩:=je (w.heap.size);have HB:=jh (show Below w.heap.size w v_1 by rw[e1];exact ja);have HV:=jh (show v_1.heap[VB]?=some (.cells LA 71 (0,0)) by rw[e1,lD];exact jQ);rw[<-e1,<-lD];have HX:=jh (HX.out.later HB.out);have WV:=jh (show w.heap.size<=VB by omega);clear e1 lD;have hcm:=HX.out.mp
 go_upto_region 3 with(first|(go_at_call 31;refine(JR _ hcm).mono ?_;rintro _ U8 ⟨rfl,hb⟩))
 have HV:=jb hb HV;have HX:=jh (HX.out.later hb);have HB:=jw HB hb;clear hb;clear hcm;refine jK [(0,true),(1,true),(2,true),(3,true),(4,true),(5,true),(6,true),(7,true),(8,true),(9,true),(10,true),(11,true),(12,true),(13,false),(14,true),(15,true),(16,true)] (fun w8=>w8.heap[VB]?=some (.cells LA 71 (0,0))/\J7 w8 bx gp gq gg gh n cap nb no mb fb fo fc ep base fa se ks vv f E) (by kernel_rfl) (by kernel_rfl) (fun _ _ _ _ _ h=>h) (⟨((U3.drew:Below U8.heap.size U8 U8.drew).block _ (J6.1 HV.out).1).trans HV.out,HX.out.later (U3.drew)⟩) (fun hHeld=>?_);refine jq ?_;refine jx (.int .u64 e) rfl (fun w8 hSw=>jd (Jl (EQ (show w8.rangeAt VB 0 (jM k e v nd h9 c s) by have h9:=qL (show w8.heap[VB]?=some (.cells L.toArray 71 (0,0)) by rw[<-MN.out];exact hSw.1);rw[VF.out] at h9;exact h9)))) ?_
 iterate 3
  refine jq ?_
 refine jx (.int .u64 ep) rfl (fun w8 hSw=>jd (Jl hSw.2.epo)) ?_;refine jx (.bool true) rfl (fun w8 hSw=>by have e9:=fF.out;simp[go_sem,e9]) ?_;refine jq ?_
 iterate 5
  refine jR ?_
 refine WP.step rfl (fun K hK=>?_);refine zp (by rfl) ?_;refine qD hK (hHeld) (fun hHeld=>?_);clear hK K;refine jR ?_;refine jq ?_;refine jq ?_;refine WP.done ?_;clear hHeld
 go_wp2_with fail
 go_ret2
 exact⟨rfl,HB.out.drew⟩
theorem BPut_no{bx gp gq gg gh n cap nb no mb fb fo fc ep base:Nat}{fa se:Int}{ks:List (Nat×Nat)}{f:Value->Option Value}{E:List Bal.Bv}{vv:Bal.Bv->List Value}{k v nd c s:Nat}{h9:List Nat}(hl:h9.length=32)(hc:∀W,Y4 W nb no ks->Calls prog 20 #[zC gp gq gg gh fa se (.slice (some ⟨nb,no,none⟩) n cap),qU k ep v nd h9 c s] W fun r W'=>r=.returned (.bool false)/\Below W.heap.size W W')(w:World)(h:J7 w bx gp gq gg gh n cap nb no mb fb fo fc ep base fa se ks vv f E):
  Calls prog 9 #[.pointer (some ⟨bx,0,none⟩),qU k ep v nd h9 c s] w fun r w'=>r=.returned (.tuple #[.bool false,.int .i64 1])/\Below w.heap.size w w':=by
 have CK:=jh hc;obtain⟨L,hL⟩:=je (jM k ep v nd h9 c s);have UD:L.length=44:=by rw[hL];exact qz hl
 have N9:(prog.info? 71).map (·.size)=some L.toArray.size:=by rw[qg];simp[UD]
 have VF:=jh hL;have aO:=jh UD;have HX:=jh h;obtain⟨LA,SC⟩:=je (L.toArray);have MN:=jh SC;obtain⟨SV,OC⟩:∃SV,zC gp gq gg gh fa se (.slice (some ⟨nb,no,none⟩) n cap)=.agg SV:=⟨_,rfl⟩;have lX:=jh OC;unfold qU at CK;rw[OC,<-hL,<-SC] at CK;unfold qU;rw[<-hL,<-SC];rw[<-SC] at N9;have I7:=jh N9;clear h hL UD SC hl hc OC
 go_enter func9,ntmps9
 go_upto_region 1 with fail
 obtain⟨v_1,e1⟩:=je (w.alloc (.cells LA 71));obtain⟨VB,lD⟩:=je (w.heap.size);have HB:=jh (show Below w.heap.size w v_1 by rw[e1];exact ja);have HV:=jh (show v_1.heap[VB]?=some (.cells LA 71 (0,0)) by rw[e1,lD];exact jQ);rw[<-e1,<-lD];have HX:=jh (HX.out.later HB.out);have WV:=jh (show w.heap.size<=VB by omega);clear e1 lD;have hcm:=HX.out.mp
 go_upto_region 3 with(first|(go_at_call 31;refine(JR _ hcm).mono ?_;rintro _ U8 ⟨rfl,hb⟩))
 have HV:=jb hb HV;have HX:=jh (HX.out.later hb);have HB:=jw HB hb;clear hb;clear hcm;refine jJ (.take 0 (.take 1 (.take 2 (.take 3 (.take 4 (.take 5 (.take 6 (.take 7 (.take 8 (.take 9 (.take 10 (.take 11 (.take 12 (.step 13 (.take 14 (.take 15 (.take 16 .done))))))))))))))))) (fun w8=>w8.heap[VB]?=some (.cells LA 71 (0,0))/\J7 w8 bx gp gq gg gh n cap nb no mb fb fo fc ep base fa se ks vv f E) (by kernel_rfl) (by kernel_rfl) (fun _ _ _ _ _ h=>h) (⟨((U3.drew:Below U8.heap.size U8 U8.drew).block _ (J6.1 HV.out).1).trans HV.out,HX.out.later (U3.drew)⟩) (fun hHeld=>?_);obtain⟨x1,e1⟩:=je (U8.drew);rw[<-e1];have hb:Below U8.heap.size U8 x1:=by rw[e1];exact U3.drew
 clear e1;have HV:=jb hb HV;have HX:=jh (HX.out.later hb);have HB:=jw HB hb;clear hb;refine jz ?_;refine jH (.int .u64 ep) rfl (fun w8 hSw=>jd (Jl (EQ (show w8.rangeAt VB 0 (jM k ep v nd h9 c s) by have h9:=qL (show w8.heap[VB]?=some (.cells L.toArray 71 (0,0)) by rw[<-MN.out];exact hSw.1);rw[VF.out] at h9;exact h9)))) ?_
 iterate 3
  refine jz ?_
 refine jH (.int .u64 ep) rfl (fun w8 hSw=>jd (Jl hSw.2.epo)) ?_;refine jH (.bool false) rfl (fun w8 hSw=>by simp[go_sem]) ?_
 iterate 4
  refine jz ?_
 refine jH (.agg SV) rfl (fun w8 hSw=>by rw[<-lX.out];exact jd (Qr hSw.2.set)) ?_;refine jH (.agg LA) rfl (fun w8 hSw=>jd (qO hSw.1 underlying71 rfl I7.out)) ?_;refine WT.step rfl (fun K hK=>?_)
 go_simp
 refine(CK.out _ HX.out.keys).mono ?_;rintro _ x2 ⟨rfl,hb⟩;have HV:=jb hb HV;have HX:=jh (HX.out.later hb);have HB:=jw HB hb;clear hb;refine qD hK (⟨HV.out,HX.out⟩) (fun hHeld=>?_);clear hK K
 iterate 3
  refine jz ?_
 refine WT.done ?_;clear hHeld
 go_wp2_with fail
 go_ret2
 exact⟨rfl,HB.out⟩
theorem BPut_in{bx gp gq gg gh n cap nb no mb fb fo fc ep base:Nat}{fa se:Int}{ks:List (Nat×Nat)}{f:Value->Option Value}{E:List Bal.Bv}{C S C2 S2:Bal.Bv->Nat}{x:Bal.Bv}{i:Nat}(hi:x.n=i+1)(hin:i<n)(hn7:n<=7)(hxk:x.k<256)(hxv:x.v<4294967296)(hE:E.length<=1000)(hc:∀W,Y4 W nb no ks->Calls prog 20 #[zC gp gq gg gh fa se (.slice (some ⟨nb,no,none⟩) n cap),.agg (qS ep C2 S2 x).toArray] W fun r W'=>r=.returned (.bool true)/\Below W.heap.size W W')(hx:x∈E)(w:World)(h:J7 w bx gp gq gg gh n cap nb no mb fb fo fc ep base fa se ks (qS ep C S) f E):
  Calls prog 9 #[.pointer (some ⟨bx,0,none⟩),.agg (qS ep C2 S2 x).toArray] w fun r w'=>r=.returned (.tuple #[.bool false,.int .i64 0])/\Below w.heap.size w w':=by
 have CK:=jh hc;obtain⟨L,hL⟩:=je (qS ep C2 S2 x);have UD:L.length=44:=by rw[hL];exact ql _ _ _ _
 have h1L:∀u∈L,u.oneCell'=true:=by rw[hL];exact LG _ _ _ _
 have N9:(prog.info? 71).map (·.size)=some L.toArray.size:=by rw[qg];simp[UD]
 have VF:=jh hL;have aO:=jh UD;have H1L:=jh h1L;have HX:=jh h;obtain⟨LA,SC⟩:=je (L.toArray);have MN:=jh SC;obtain⟨SV,OC⟩:∃SV,zC gp gq gg gh fa se (.slice (some ⟨nb,no,none⟩) n cap)=.agg SV:=⟨_,rfl⟩;have lX:=jh OC;rw[OC,<-hL,<-SC] at CK;rw[<-hL,<-SC];obtain⟨kl,hkl⟩:=aH (k:=x.k) (v:=x.v) (n:=x.n) hxk hxv (by omega);have HKL:=jh hkl;have HI:=jh hi;have HIN:=jh hin;have HN7:=jh hn7;have HXV:=jh hxv;have HEL:=jh hE;have X4:=jh h.bs;have O7:=jh h.lt;have hrow:=h.rows.row x.k x.v x.n;obtain⟨rn,hrn⟩:=je ((Bal.at_ E x.k x.v x.n).length);have hrI:(rn:Int)<=1000:=by have h9:=lQ E x.k x.v x.n;omega
 rw[<-hrn] at hrow;obtain⟨ra,rc,MV⟩:=hrow.shape9;have PY:=fun g (hg:((f (qE x.k x.v x.n)).getD (.slice none 0 0)).ownBlock=some g)=>h.rows.lt ⟨x.k,x.v,x.n,hg⟩
 rw[MV] at hrow PY;have HRW:=jh hrow;have RZ:=jh MV;have HRN:=jh hrn;have N7:=jh PY;have CC:=jh (fun(VB:Nat) (W:World) (L8:W.rangeAt VB 0 (qS ep C2 S2 x)) (ho9:O1 W base 71 44 (.slice ra rn rc) rn ((Bal.at_ E x.k x.v x.n).flatMap (qS ep C S)))=>by have h9:=xW (ep:=ep) (C:=C) (S:=S) (VB:=VB) (t:=x.s) hrn.symm (by have:=lQ E x.k x.v x.n;omega) W L8 ho9;rw[XI] at h9;exact h9);clear hrow PY MV hrn hkl hi hin hn7 hxk hxv hE h1L;rw[<-SC] at N9;have I7:=jh N9;clear h hL UD SC hc OC
 go_enter func9,ntmps9
 go_upto_region 1 with fail
 obtain⟨v_1,e1⟩:=je (w.alloc (.cells LA 71));obtain⟨VB,lD⟩:=je (w.heap.size);have HB:=jh (show Below w.heap.size w v_1 by rw[e1];exact ja);have HV:=jh (show v_1.heap[VB]?=some (.cells LA 71 (0,0)) by rw[e1,lD];exact jQ);rw[<-e1,<-lD];have HX:=jh (HX.out.later HB.out);have WV:=jh (show w.heap.size<=VB by omega);clear e1 lD;have hcm:=HX.out.mp
 go_upto_region 3 with(first|(go_at_call 31;refine(JR _ hcm).mono ?_;rintro _ U8 ⟨rfl,hb⟩))
 have HV:=jb hb HV;have HX:=jh (HX.out.later hb);have HB:=jw HB hb;clear hb;clear hcm;refine jJ (.take 0 (.take 1 (.take 2 (.take 3 (.take 4 (.take 5 (.take 6 (.take 7 (.take 8 (.take 9 (.take 10 (.take 11 (.take 12 (.step 13 (.take 14 (.take 15 (.take 16 .done))))))))))))))))) (fun w8=>w8.heap[VB]?=some (.cells LA 71 (0,0))/\J7 w8 bx gp gq gg gh n cap nb no mb fb fo fc ep base fa se ks (qS ep C S) f E) (by kernel_rfl) (by kernel_rfl) (fun _ _ _ _ _ h=>h) (⟨((U3.drew:Below U8.heap.size U8 U8.drew).block _ (J6.1 HV.out).1).trans HV.out,HX.out.later (U3.drew)⟩) (fun hHeld=>?_);obtain⟨x1,e1⟩:=je (U8.drew);rw[<-e1];have hb:Below U8.heap.size U8 x1:=by rw[e1];exact U3.drew
 clear e1;have HV:=jb hb HV;have HX:=jh (HX.out.later hb);have HB:=jw HB hb;clear hb;refine jz ?_;refine jH (.int .u64 ep) rfl (fun w8 hSw=>jd (Jl (EQ (show w8.rangeAt VB 0 (jM x.k ep x.v x.n (hsL x.s) (C2 x) (S2 x)) by have h9:=qL (show w8.heap[VB]?=some (.cells L.toArray 71 (0,0)) by rw[<-MN.out];exact hSw.1);rw[VF.out] at h9;exact h9)))) ?_
 iterate 3
  refine jz ?_
 refine jH (.int .u64 ep) rfl (fun w8 hSw=>jd (Jl hSw.2.epo)) ?_;refine jH (.bool false) rfl (fun w8 hSw=>by simp[go_sem]) ?_
 iterate 4
  refine jz ?_
 refine jH (.agg SV) rfl (fun w8 hSw=>by rw[<-lX.out];exact jd (Qr hSw.2.set)) ?_;refine jH (.agg LA) rfl (fun w8 hSw=>jd (qO hSw.1 underlying71 rfl I7.out)) ?_;refine WT.step rfl (fun K hK=>?_)
 go_simp
 refine(CK.out _ HX.out.keys).mono ?_;rintro _ x2 ⟨rfl,hb⟩;have HV:=jb hb HV;have HX:=jh (HX.out.later hb);have HB:=jw HB hb;clear hb;refine qD hK (⟨HV.out,HX.out⟩) (fun hHeld=>?_);clear hK K
 iterate 3
  refine jz ?_
 refine WT.done ?_;clear hHeld;have hrg:=qL (show x2.heap[VB]?=some (.cells L.toArray 71 (0,0)) by rw[<-MN.out];exact HV.out);rw[VF.out] at hrg;have HRG:=jh hrg;clear hrg
 go_upto_region 5 with fail
 refine wp_region_lit ?_;refine jL (jP VB 0) ?_;refine jL (.int .u8 x.k) ?_ (jd (Ju (Qp HRG.out)));refine jL (jP VB 2) ?_;refine jL (.int .u32 x.v) ?_ (jd (zU (Qf HRG.out)));refine jL (jP VB 3) ?_;refine jL (.int .u8 x.n) ?_ (jd (fM (Zq HRG.out)));refine jL (qE x.k x.v x.n) ?_;refine qq (v:=.pointer (some ⟨x2.heap.size,0,none⟩)) (w':=x2.alloc (.cells #[.int .u8 0,.int .u32 0,.int .u8 0] 99)) rfl (by kernel_rfl) ?_;simp only[Act.put,pa,pb,pc];refine jW rfl _ _ _ rfl #[.int .u8 0,.int .u32 0,.int .u8 0] #[.int .u8 (x.k:Int),.int .u32 (x.v:Int),.int .u8 (x.n:Int)] rfl rfl (by kernel_rfl) rfl (by kernel_rfl) ?_;simp only[Act.put,pa,pb,pc]
 go_upto_region 6 with fail
 obtain⟨y1,PB,e9,h9,hb⟩:=qJ x2 (.cells #[.int .u8 (x.k:Int),.int .u32 (x.v:Int),.int .u8 (x.n:Int)] 99);have HP:=jh (show y1.heap[PB]?=some (.cells #[.int .u8 (x.k:Int),.int .u32 (x.v:Int),.int .u8 (x.n:Int)] 99 (0,0)) by rw[e9,h9];exact jQ);have WP9:=jh (show w.heap.size<=PB by rw[h9];exact HB.out.size);rw[<-e9,<-h9];clear e9 h9;have HV:=jb hb HV;have HX:=jh (HX.out.later hb);have HB:=jw HB hb;clear hb;refine jK [(0,true),(1,true),(2,true),(3,true),(4,true),(5,true),(6,true)] (fun w8=>J7 w8 bx gp gq gg gh n cap nb no mb fb fo fc ep base fa se ks (qS ep C S) f E/\w8.heap[PB]?=some (.cells #[.int .u8 (x.k:Int),.int .u32 (x.v:Int),.int .u8 (x.n:Int)] 99 (0,0))) (by kernel_rfl) (by kernel_rfl) (fun _ _ _ _ _ h=>h) (⟨HX.out.later (U3.drew),((U3.drew:Below y1.heap.size y1 y1.drew).block _ (J6.1 HP.out).1).trans HP.out⟩) (fun hHeld=>?_)
 iterate 3
  refine jq ?_
 refine jx (.map (some mb)) rfl (fun w8 hSw=>jd (dM hSw.1.mp)) ?_;refine jx (.agg #[.int .u8 (x.k:Int),.int .u32 (x.v:Int),.int .u8 (x.n:Int)]) rfl (fun w8 hSw=>jd (qO hSw.2 underlying99 rfl (by kernel_rfl))) ?_;refine jx (.slice ra rn rc) rfl (fun w8 hSw=>by rw[<-RZ.out];exact SG rfl QR underlying91 (xQ _) rfl hSw.1.map (by kernel_rfl) HKL.out) ?_;refine jq ?_;refine WP.done ?_;clear hHeld;obtain⟨y2,e1⟩:=je (y1.drew);rw[<-e1];have hb:Below y1.heap.size y1 y2:=by rw[e1];exact U3.drew
 clear e1;have HP:=jb hb HP;have HV:=jb hb HV;have HX:=jh (HX.out.later hb);have HB:=jw HB hb;clear hb;have hrg:=qL (show y2.heap[VB]?=some (.cells L.toArray 71 (0,0)) by rw[<-MN.out];exact HV.out);rw[VF.out] at hrg;have CCx:=jh (CC.out VB y2 hrg (O1.later HRW.out HB.out));clear hrg HRG;rw[decide_eq_true hx] at CCx;clear hx
 go_wp2_with (first|(go_at_call 32;refine CCx.out.mono ?_;rintro _ y3 ⟨rfl,hb⟩;have HB:=jw HB hb;clear hb))
 go_ret2
 exact⟨rfl,HB.out⟩
theorem BPut_new{bx gp gq gg gh n cap nb no mb fb fo fc ep base:Nat}{fa se:Int}{ks:List (Nat×Nat)}{f:Value->Option Value}{E:List Bal.Bv}{C S:Bal.Bv->Nat}{x:Bal.Bv}{i:Nat}(hi:x.n=i+1)(hin:i<n)(hn7:n<=7)(hxk:x.k<256)(hxv:x.v<4294967296)(hE:E.length<=1000)(hc:∀W,Y4 W nb no ks->Calls prog 20 #[zC gp gq gg gh fa se (.slice (some ⟨nb,no,none⟩) n cap),.agg (qS ep C S x).toArray] W fun r W'=>r=.returned (.bool true)/\Below W.heap.size W W')(hx:x∉E)(w:World)(h:J7 w bx gp gq gg gh n cap nb no mb fb fo fc ep base fa se ks (qS ep C S) f E):
  Calls prog 9 #[.pointer (some ⟨bx,0,none⟩),.agg (qS ep C S x).toArray] w fun r w'=>r=.returned (.tuple #[.bool (decide ((Bal.at_ E x.k x.v x.n).length=0)),.int .i64 (if(Bal.at_ E x.k x.v x.n).length=0 then 0 else 8)])/\∃f',J7 w' bx gp gq gg gh n cap nb no mb fb fo fc ep base fa se ks (qS ep C S) f' (Bal.bput E x)/\Turn w w' mb fb f/\∀g,Zs f' g->Zs f g∨w.heap.size<=g:=by
 obtain⟨B9,hB9⟩:=je (decide ((Bal.at_ E x.k x.v x.n).length=0));obtain⟨I9,hI9⟩:∃b:Int,b=(if(Bal.at_ E x.k x.v x.n).length=0 then 0 else 8):=⟨_,rfl⟩;rw[<-hB9,<-hI9];have IC:=jh hB9;have HI9:=jh hI9;clear hB9 hI9;have CK:=jh hc;obtain⟨L,hL⟩:=je (qS ep C S x);have UD:L.length=44:=by rw[hL];exact ql _ _ _ _
 have h1L:∀u∈L,u.oneCell'=true:=by rw[hL];exact LG _ _ _ _
 have N9:(prog.info? 71).map (·.size)=some L.toArray.size:=by rw[qg];simp[UD]
 have VF:=jh hL;have aO:=jh UD;have H1L:=jh h1L;have HX:=jh h;obtain⟨LA,SC⟩:=je (L.toArray);have MN:=jh SC;obtain⟨SV,OC⟩:∃SV,zC gp gq gg gh fa se (.slice (some ⟨nb,no,none⟩) n cap)=.agg SV:=⟨_,rfl⟩;have lX:=jh OC;rw[OC,<-hL,<-SC] at CK;rw[<-hL,<-SC];obtain⟨kl,hkl⟩:=aH (k:=x.k) (v:=x.v) (n:=x.n) hxk hxv (by omega);have HKL:=jh hkl;have HI:=jh hi;have HIN:=jh hin;have HN7:=jh hn7;have HXV:=jh hxv;have HEL:=jh hE;have X4:=jh h.bs;have O7:=jh h.lt;have hrow:=h.rows.row x.k x.v x.n;obtain⟨rn,hrn⟩:=je ((Bal.at_ E x.k x.v x.n).length);have hrI:(rn:Int)<=1000:=by have h9:=lQ E x.k x.v x.n;omega
 rw[<-hrn] at hrow;obtain⟨ra,rc,MV⟩:=hrow.shape9;have PY:=fun g (hg:((f (qE x.k x.v x.n)).getD (.slice none 0 0)).ownBlock=some g)=>h.rows.lt ⟨x.k,x.v,x.n,hg⟩
 rw[MV] at hrow PY;have HRW:=jh hrow;have RZ:=jh MV;have HRN:=jh hrn;have N7:=jh PY;have CC:=jh (fun(VB:Nat) (W:World) (L8:W.rangeAt VB 0 (qS ep C S x)) (ho9:O1 W base 71 44 (.slice ra rn rc) rn ((Bal.at_ E x.k x.v x.n).flatMap (qS ep C S)))=>by have h9:=xW (ep:=ep) (C:=C) (S:=S) (VB:=VB) (t:=x.s) hrn.symm (by have:=lQ E x.k x.v x.n;omega) W L8 ho9;rw[XI] at h9;exact h9);clear hrow PY MV hrn hkl hi hin hn7 hxk hxv hE h1L;rw[<-SC] at N9;have I7:=jh N9;clear h hL UD SC hc OC
 go_enter func9,ntmps9
 go_upto_region 1 with fail
 obtain⟨v_1,e1⟩:=je (w.alloc (.cells LA 71));obtain⟨VB,lD⟩:=je (w.heap.size);have HB:=jh (show Below w.heap.size w v_1 by rw[e1];exact ja);have HV:=jh (show v_1.heap[VB]?=some (.cells LA 71 (0,0)) by rw[e1,lD];exact jQ);rw[<-e1,<-lD];have HX:=jh (HX.out.later HB.out);have WV:=jh (show w.heap.size<=VB by omega);clear e1 lD;have hcm:=HX.out.mp
 go_upto_region 3 with(first|(go_at_call 31;refine(JR _ hcm).mono ?_;rintro _ U8 ⟨rfl,hb⟩))
 have HV:=jb hb HV;have HX:=jh (HX.out.later hb);have HB:=jw HB hb;clear hb;clear hcm;refine jJ (.take 0 (.take 1 (.take 2 (.take 3 (.take 4 (.take 5 (.take 6 (.take 7 (.take 8 (.take 9 (.take 10 (.take 11 (.take 12 (.step 13 (.take 14 (.take 15 (.take 16 .done))))))))))))))))) (fun w8=>w8.heap[VB]?=some (.cells LA 71 (0,0))/\J7 w8 bx gp gq gg gh n cap nb no mb fb fo fc ep base fa se ks (qS ep C S) f E) (by kernel_rfl) (by kernel_rfl) (fun _ _ _ _ _ h=>h) (⟨((U3.drew:Below U8.heap.size U8 U8.drew).block _ (J6.1 HV.out).1).trans HV.out,HX.out.later (U3.drew)⟩) (fun hHeld=>?_);obtain⟨x1,e1⟩:=je (U8.drew);rw[<-e1];have hb:Below U8.heap.size U8 x1:=by rw[e1];exact U3.drew
 clear e1;have HV:=jb hb HV;have HX:=jh (HX.out.later hb);have HB:=jw HB hb;clear hb;refine jz ?_;refine jH (.int .u64 ep) rfl (fun w8 hSw=>jd (Jl (EQ (show w8.rangeAt VB 0 (jM x.k ep x.v x.n (hsL x.s) (C x) (S x)) by have h9:=qL (show w8.heap[VB]?=some (.cells L.toArray 71 (0,0)) by rw[<-MN.out];exact hSw.1);rw[VF.out] at h9;exact h9)))) ?_
 iterate 3
  refine jz ?_
 refine jH (.int .u64 ep) rfl (fun w8 hSw=>jd (Jl hSw.2.epo)) ?_;refine jH (.bool false) rfl (fun w8 hSw=>by simp[go_sem]) ?_
 iterate 4
  refine jz ?_
 refine jH (.agg SV) rfl (fun w8 hSw=>by rw[<-lX.out];exact jd (Qr hSw.2.set)) ?_;refine jH (.agg LA) rfl (fun w8 hSw=>jd (qO hSw.1 underlying71 rfl I7.out)) ?_;refine WT.step rfl (fun K hK=>?_)
 go_simp
 refine(CK.out _ HX.out.keys).mono ?_;rintro _ x2 ⟨rfl,hb⟩;have HV:=jb hb HV;have HX:=jh (HX.out.later hb);have HB:=jw HB hb;clear hb;refine qD hK (⟨HV.out,HX.out⟩) (fun hHeld=>?_);clear hK K
 iterate 3
  refine jz ?_
 refine WT.done ?_;clear hHeld;have hrg:=qL (show x2.heap[VB]?=some (.cells L.toArray 71 (0,0)) by rw[<-MN.out];exact HV.out);rw[VF.out] at hrg;have HRG:=jh hrg;clear hrg
 go_upto_region 5 with fail
 refine wp_region_lit ?_;refine jL (jP VB 0) ?_;refine jL (.int .u8 x.k) ?_ (jd (Ju (Qp HRG.out)));refine jL (jP VB 2) ?_;refine jL (.int .u32 x.v) ?_ (jd (zU (Qf HRG.out)));refine jL (jP VB 3) ?_;refine jL (.int .u8 x.n) ?_ (jd (fM (Zq HRG.out)));refine jL (qE x.k x.v x.n) ?_;refine qq (v:=.pointer (some ⟨x2.heap.size,0,none⟩)) (w':=x2.alloc (.cells #[.int .u8 0,.int .u32 0,.int .u8 0] 99)) rfl (by kernel_rfl) ?_;simp only[Act.put,pa,pb,pc];refine jW rfl _ _ _ rfl #[.int .u8 0,.int .u32 0,.int .u8 0] #[.int .u8 (x.k:Int),.int .u32 (x.v:Int),.int .u8 (x.n:Int)] rfl rfl (by kernel_rfl) rfl (by kernel_rfl) ?_;simp only[Act.put,pa,pb,pc]
 go_upto_region 6 with fail
 obtain⟨y1,PB,e9,h9,hb⟩:=qJ x2 (.cells #[.int .u8 (x.k:Int),.int .u32 (x.v:Int),.int .u8 (x.n:Int)] 99);have HP:=jh (show y1.heap[PB]?=some (.cells #[.int .u8 (x.k:Int),.int .u32 (x.v:Int),.int .u8 (x.n:Int)] 99 (0,0)) by rw[e9,h9];exact jQ);have WP9:=jh (show w.heap.size<=PB by rw[h9];exact HB.out.size);rw[<-e9,<-h9];clear e9 h9;have HV:=jb hb HV;have HX:=jh (HX.out.later hb);have HB:=jw HB hb;clear hb;refine jK [(0,true),(1,true),(2,true),(3,true),(4,true),(5,true),(6,true)] (fun w8=>J7 w8 bx gp gq gg gh n cap nb no mb fb fo fc ep base fa se ks (qS ep C S) f E/\w8.heap[PB]?=some (.cells #[.int .u8 (x.k:Int),.int .u32 (x.v:Int),.int .u8 (x.n:Int)] 99 (0,0))) (by kernel_rfl) (by kernel_rfl) (fun _ _ _ _ _ h=>h) (⟨HX.out.later (U3.drew),((U3.drew:Below y1.heap.size y1 y1.drew).block _ (J6.1 HP.out).1).trans HP.out⟩) (fun hHeld=>?_)
 iterate 3
  refine jq ?_
 refine jx (.map (some mb)) rfl (fun w8 hSw=>jd (dM hSw.1.mp)) ?_;refine jx (.agg #[.int .u8 (x.k:Int),.int .u32 (x.v:Int),.int .u8 (x.n:Int)]) rfl (fun w8 hSw=>jd (qO hSw.2 underlying99 rfl (by kernel_rfl))) ?_;refine jx (.slice ra rn rc) rfl (fun w8 hSw=>by rw[<-RZ.out];exact SG rfl QR underlying91 (xQ _) rfl hSw.1.map (by kernel_rfl) HKL.out) ?_;refine jq ?_;refine WP.done ?_;clear hHeld;obtain⟨y2,e1⟩:=je (y1.drew);rw[<-e1];have hb:Below y1.heap.size y1 y2:=by rw[e1];exact U3.drew
 clear e1;have HP:=jb hb HP;have HV:=jb hb HV;have HX:=jh (HX.out.later hb);have HB:=jw HB hb;clear hb;have hrg:=qL (show y2.heap[VB]?=some (.cells L.toArray 71 (0,0)) by rw[<-MN.out];exact HV.out);rw[VF.out] at hrg;have CCx:=jh (CC.out VB y2 hrg (O1.later HRW.out HB.out));clear hrg HRG;rw[decide_eq_false hx] at CCx;have HXE:=jh hx;clear hx
 go_upto_region 9 with(first|(go_at_call 32;refine CCx.out.mono ?_;rintro _ y3 ⟨rfl,hb⟩))
 have HP:=jb hb HP;have HV:=jb hb HV;have HX:=jh (HX.out.later hb);have HB:=jw HB hb;clear hb;obtain⟨iv,zv,hiv,hzv,hv1,hv2,hv3⟩:=QJ;have HI2:=jh hiv;have HZ:=jh hzv;have HZ1:=jh hv1;have HZ2:=jh hv2;have HZ3:=jh hv3;clear hiv hzv hv1 hv2 hv3;refine jJ (.take 0 (.take 1 (.take 2 (.take 3 (.take 4 (.take 5 (.take 6 (.step 7 (.step 8 (.step 9 .done)))))))))) (fun w8=>w8.cell? ⟨bx,20,none⟩=some (.map (some mb))/\w8.heap[PB]?=some (.cells #[.int .u8 (x.k:Int),.int .u32 (x.v:Int),.int .u8 (x.n:Int)] 99 (0,0))/\w8.heap[VB]?=some (.cells LA 71 (0,0))/\w8.cell? ⟨bx,21,none⟩=some (.slice (some ⟨fb,fo,none⟩) n fc)) (by kernel_rfl) (by kernel_rfl) (fun _ _ _ _ _ h=>h) (⟨HX.out.mp,((U3.drew:Below y3.heap.size y3 y3.drew).block _ (J6.1 HP.out).1).trans HP.out,((U3.drew:Below y3.heap.size y3 y3.drew).block _ (J6.1 HV.out).1).trans HV.out,HX.out.fr⟩) (fun hHeld=>?_);obtain⟨y4,e1⟩:=je (y3.drew);rw[<-e1];have hb:Below y3.heap.size y3 y4:=by rw[e1];exact U3.drew
 clear e1;have HP:=jb hb HP;have HV:=jb hb HV;have HX:=jh (HX.out.later hb);have HB:=jw HB hb;clear hb
 iterate 3
  refine jz ?_
 refine jH (.map (some mb)) rfl (fun w8 hSw=>jd (dM hSw.1)) ?_;refine jH (.agg #[.int .u8 (x.k:Int),.int .u32 (x.v:Int),.int .u8 (x.n:Int)]) rfl (fun w8 hSw=>jd (qO hSw.2.1 underlying99 rfl (by kernel_rfl))) ?_;refine jz ?_;refine jH (.agg LA) rfl (fun w8 hSw=>jd (qO hSw.2.2.1 underlying71 rfl I7.out)) ?_;refine WT.step rfl (fun K hK=>?_);refine zX (v:=.slice (some ⟨y4.heap.size,0,none⟩) 1 1) (w':=y4.alloc (.cells L.toArray 71)) (by rfl) (JA aO.out rfl (by rw[<-MN.out];rfl)) ?_;obtain⟨wa,AB,e9,h9,hb⟩:=qJ y4 (.cells L.toArray 71);have HA:=jh (show wa.heap[AB]?=some (.cells L.toArray 71 (0,0)) by rw[e9,h9];exact jQ);rw[<-e9,<-h9];clear e9 h9;have HP:=jb hb HP;have HV:=jb hb HV;have HX:=jh (HX.out.later hb);have HB:=jw HB hb;clear hb;refine qD hK (⟨HX.out.mp,HP.out,HV.out,HX.out.fr⟩) (fun hHeld=>?_);clear hK K;refine WT.step rfl (fun K hK=>?_);refine JI rfl _ _ 30 rfl base 71 iv zv 44 iv.bytes underlying30 HI2.out HZ.out HZ1.out rfl HZ3.out (.slice ra rn rc) rn _ rfl (O1.later HRW.out HB.out) _ 1 L rfl (FU HA.out aO.out H1L.out) (by unfold maxLen;omega) (by have h2:=HZ2.out;have h3:(rn+1)*iv.bytes<=1001*1000:=Nat.mul_le_mul (by omega) h2;omega) (Nat.le_trans X4.out HB.out.size) ?_;intro v3 wb ho3 hg3 hl3;have IJ:∀q,(q<base∨w.heap.size<=q)->some q≠(Value.slice ra rn rc).ownBlock:=fun q hq e=>by have:=N7.out q e.symm;omega
 have HP:=jh (Jh HP.out hg3 (IJ _ (.inr WP9.out)));have HV:=jh (Jh HV.out hg3 (IJ _ (.inr WV.out)));have HMP:=jh (zF HX.out.mp hg3 (IJ _ (.inl O7.out.1)));have SN:=jh (zF HX.out.fr hg3 (IJ _ (.inl O7.out.1)));have RH:=jh (HX.out.map.block (hg3.block mb (jv HX.out.lt.2.2.1 HX.out.bs) (IJ _ (.inl O7.out.2.2.1))));have HFA:=jh (O1.block HX.out.far (fun g hg=>by cases hg;exact hg3.block fb (jv HX.out.lt.2.2.2 HX.out.bs) (IJ _ (.inl O7.out.2.2.2))));have UJ:=jh ho3;have mX:=jh hg3;have HL3:=jh hl3;clear ho3 hg3 hl3 IJ;refine qD hK (⟨HMP.out,HP.out,HV.out,SN.out⟩) (fun hHeld=>?_);clear hK K;refine WT.step rfl (fun K hK=>?_);refine EU (by rfl) _ _ _ 91 rfl 99 30 QR underlying91 mb f rfl RH.out (qE x.k x.v x.n) v3 kl (by kernel_rfl) (by kernel_rfl) HKL.out ?_;intro wc hmap hg4;have hneP:mb≠PB/\mb≠VB/\mb≠bx/\fb≠mb:=by have h1:=O7.out;have h2:=X4.out;have h3:=WP9.out;have h4:=WV.out;have h5:=HX.out.ne;omega
 have HP:=jh (Jh HP.out hg4 (fun e=>hneP.1 (by injection e with e;exact e.symm)));have HV:=jh (Jh HV.out hg4 (fun e=>hneP.2.1 (by injection e with e;exact e.symm)));have HMP:=jh (zF HMP.out hg4 (fun e=>hneP.2.2.1 (by injection e with e;exact e.symm)));have SN:=jh (zF SN.out hg4 (fun e=>hneP.2.2.1 (by injection e with e;exact e.symm)));have HFA:=jh (O1.block HFA.out (fun g hg=>by cases hg;exact hg4.block fb (HFA.out.lt _ rfl).2 (fun e=>hneP.2.2.2 (by injection e))));have HM4:=jh hmap;have HG4:=jh hg4;clear hmap hg4 hneP;refine qD hK (⟨HMP.out,HP.out,HV.out,SN.out⟩) (fun hHeld=>?_);clear hK K;refine WT.done ?_;clear hHeld;have E9:=jh (show IntKind.u8.wrap ((x.n:Int)-1)=(i:Int) by rw[HI.out,show(((i+1:Nat):Int)-1)=(i:Int) by omega];have:=HIN.out;have:=HN7.out;simp[IntKind.wrap,IntKind.bits,IntKind.signed];omega);have E64:=jh (show IntKind.i64.wrap (x.v:Int)=(x.v:Int) by have:=HXV.out;simp[IntKind.wrap,IntKind.bits,IntKind.signed];omega);have hiI:(i:Int)<(n:Int):=by have:=HIN.out;omega
 obtain⟨F9,hF9⟩:=je (Bal.farOf E x.n);have HC:=jh (show wc.cell? ⟨fb,fo+i,none⟩=some (.int .i64 F9) by rw[hF9,HI.out];exact O1.cell9 HFA.out (XM HIN.out));have HF9:=jh hF9;clear hF9;obtain⟨M,hM⟩:=je ((if(x.v:Int)>F9 then(x.v:Int) else F9));have HM:=jh hM;clear hM
 go_upto_region 10 with fail
 refine jJ (.take 0 (.take 1 (.take 2 (.take 3 (.take 4 (.take 5 (.take 6 (.take 7 (.take 8 (.take 9 (.take 10 (.take 11 (.take 12 (.take 13 (.take 14 (.take 16 (.take 17 (.take 18 (.step 15 (.take 19 (.take 20 (.step 21 .done)))))))))))))))))))))) (fun w8=>w8.cell? ⟨bx,21,none⟩=some (.slice (some ⟨fb,fo,none⟩) n fc)/\w8.heap[VB]?=some (.cells LA 71 (0,0))) (by kernel_rfl) (by kernel_rfl) (fun _ _ _ _ _ h=>h) (⟨SN.out,((U3.drew:Below wc.heap.size wc wc.drew).block _ (J6.1 HV.out).1).trans HV.out⟩) (fun hHeld=>?_);obtain⟨y5,e1⟩:=je (wc.drew);have hb:Below wc.heap.size wc y5:=by rw[e1];exact U3.drew
 have dO:=jh hb;have HC5:=jh (jj HC.out hb);have HFR5:=jh (jj SN.out hb);have HV5:=jb hb HV;have HFA5:=jh (O1.later HFA.out hb);rw[<-e1];clear e1 hb
 iterate 2
  refine jz ?_;refine jz ?_;refine jz ?_;refine jH (.slice (some ⟨fb,fo,none⟩) n fc) rfl (fun w8 hSw=>jd (loadFs hSw.1)) ?_;refine jz ?_;refine jH (.int .u8 x.n) rfl (fun w8 hSw=>jd (fM (Zq (show w8.rangeAt VB 0 (jM x.k ep x.v x.n (hsL x.s) (C x) (S x)) by have h9:=qL (show w8.heap[VB]?=some (.cells L.toArray 71 (0,0)) by rw[<-MN.out];exact hSw.2);rw[VF.out] at h9;exact h9)))) ?_;refine jH (.int .u8 i) rfl (fun w8 hSw=>by have e9:=E9.out;simp[go_sem,e9]) ?_
 refine jH (jP fb (fo+i)) rfl (fun w8 hSw=>by simp[go_sem,hiI]) ?_;refine jz ?_;refine jH (.int .u32 x.v) rfl (fun w8 hSw=>jd (zU (Qf (show w8.rangeAt VB 0 (jM x.k ep x.v x.n (hsL x.s) (C x) (S x)) by have h9:=qL (show w8.heap[VB]?=some (.cells L.toArray 71 (0,0)) by rw[<-MN.out];exact hSw.2);rw[VF.out] at h9;exact h9)))) ?_;refine jH (.int .i64 x.v) rfl (fun w8 hSw=>by have e9:=E64.out;simp[go_sem,e9]) ?_;refine WT.step rfl (fun K hK=>?_);refine Qg (v:=.int .i64 F9) (by rfl) (jd (loadI64 HC5.out)) ?_;refine qD hK (⟨HFR5.out,HV5.out⟩) (fun hHeld=>?_);clear hK K;refine jH (.int .i64 M) rfl (fun w8 hSw=>by rw[HM.out];simp[go_sem];split<;>omega) ?_;refine jH (jP fb (fo+i)) rfl (fun w8 hSw=>by simp[go_sem,hiI]) ?_;refine WT.step rfl (fun K hK=>?_);have c0:=HC5.out;have g0:=O1.thaw9 HFA5.out (fo+i)
 go_simp
 clear c0 g0;have HFA6:=jh (far_put HI.out HFA5.out);rw[<-HF9.out,<-HM.out] at HFA6;have IX:=jh (Jq y5 fb (fo+i) (.int .i64 M));obtain⟨wd,e9⟩:=je (y5.setCell ⟨fb,fo+i,none⟩ (.int .i64 M));rw[<-e9] at HFA6 IX⊢;clear e9;have hn6:fb≠bx/\fb≠VB:=by have h1:=O7.out;have h2:=X4.out;have h4:=WV.out;have h5:=HX.out.ne;omega
 refine qD hK (⟨zF HFR5.out IX.out (fun e=>hn6.1 (by injection e with e;exact e.symm)),Jh HV5.out IX.out (fun e=>hn6.2 (by injection e with e;exact e.symm))⟩) (fun hHeld=>?_);clear hK K;refine WT.done ?_;clear hHeld hn6
 by_cases hr0:rn=0
 ·have hrI0:¬(0:Int)<(rn:Int):=by omega
  have aC:=HX.out.put x HXE.out (by rw[<-HRN.out];simpa only[VF.out] using UJ.out) (by rw[RZ.out];exact mX.out) (by rw[RZ.out,<-HRN.out];exact HL3.out) HM4.out HG4.out HFA6.out (MF dO.out IX.out);obtain⟨f2,q1,q2,q3⟩:=aC;have Q1:=jh q1;have Q2:=jh q2;have Q3:=jh q3;have HR0:=jh hr0;clear q1 q2 q3
  go_wp2_with fail
  go_ret2
  have hr0:=HR0.out;rw[HRN.out] at hr0;refine⟨?_,f2,Q1.out,Turn.after HB.out Q2.out,fun g hg=>?_⟩
  ·rw[IC.out,HI9.out]
   simp[hr0]
  ·rcases Q3.out g hg with h9|h9
   ·exact .inl h9
   ·exact .inr (Nat.le_trans HB.out.size h9)
 ·have hrI0:(0:Int)<(rn:Int):=by omega
  have aC:=HX.out.put x HXE.out (by rw[<-HRN.out];simpa only[VF.out] using UJ.out) (by rw[RZ.out];exact mX.out) (by rw[RZ.out,<-HRN.out];exact HL3.out) HM4.out HG4.out HFA6.out (MF dO.out IX.out);obtain⟨f2,q1,q2,q3⟩:=aC;have Q1:=jh q1;have Q2:=jh q2;have Q3:=jh q3;have HR0:=jh hr0;clear q1 q2 q3
  go_wp2_with fail
  go_ret2
  have hr0:=HR0.out;rw[HRN.out] at hr0;refine⟨?_,f2,Q1.out,Turn.after HB.out Q2.out,fun g hg=>?_⟩
  ·rw[IC.out,HI9.out]
   simp[hr0]
  ·rcases Q3.out g hg with h9|h9
   ·exact .inl h9
   ·exact .inr (Nat.le_trans HB.out.size h9)
theorem Qh{w:World}{b o:Nat}{v:Value}(h:w.cell? ⟨b,o,none⟩=some v):(Instr.loadAt 30 (.pointer (some ⟨b,o,none⟩))).run prog w=.ok v w:=by
 simp[go_sem,h]
theorem bG{lv:Value}{g:Nat}:Zs (fun _=>some lv) g↔lv.ownBlock=some g:=⟨fun⟨_,_,_,h⟩=>h,fun h=>⟨0,0,0,h⟩⟩
theorem TA.set20{w:World}{b gp gq gg gh:Nat}{fa se:Int}{v:Value}(h:TA w b gp gq gg gh fa se v)(v':Value):TA (w.setCell ⟨b,20,none⟩ v') b gp gq gg gh fa se v:=
 ⟨⟨fun j hj=>qH (h.grp.1 j hj) (by omega),fun j hj=>qH (h.grp.2.1 j hj) (by omega),fun j hj=>qH (h.grp.2.2.1 j hj) (by omega),fun j hj=>qH (h.grp.2.2.2 j hj) (by omega)⟩,
  qH h.fa (by decide),qH h.se (by decide),qH h.nd (by decide),h.free.set _ _⟩
theorem A7.put{w wa:World}{rb gp gq gg gh n cap kb ko ep base:Nat}{fa se:Int}{ks:List (Nat×Nat)}{vv:Bal.Bv->List Value}{E:List Bal.Bv}{lv v':Value}(h:A7 w rb gp gq gg gh n cap kb ko ep base fa se ks vv E lv)(x:Bal.Bv)
  (hown:O1 wa base 71 44 v' (E.length+1) (E.flatMap vv++vv x)) (hgr:w.grownBy wa lv.ownBlock) (hl:Lies w wa lv v' E.length 1):
  A7 (wa.setCell ⟨rb,20,none⟩ v') rb gp gq gg gh n cap kb ko ep base fa se ks vv (E++[x]) v'/\Turn w (wa.setCell ⟨rb,20,none⟩ v') rb rb (fun _=>some lv)/\∀g,v'.ownBlock=some g->lv.ownBlock=some g∨w.heap.size<=g:=by
 have hlt:=fun g (hg:lv.ownBlock=some g)=>qr h.l hg
 have hne:∀b,b<base->some b≠lv.ownBlock:=fun b hb e=>by have:=hlt b e.symm;omega
 have s1:=fun b (hb:b<base)=>hgr.block b (jv hb h.bs) (hne b hb)
 have c20:wa.cell? ⟨rb,20,none⟩=some lv:=zQ h.lc (s1 _ h.lt.1);have hg2:=Jq wa rb 20 v';have hrk:∀b,b≠rb->b<wa.heap.size->(wa.setCell ⟨rb,20,none⟩ v').heap[b]?=wa.heap[b]?:=fun b hb hs=>hg2.block b hs (fun e=>hb (by injection e))
 have hv:=fun g (hg:v'.ownBlock=some g)=>qr hown hg
 refine⟨⟨(h.set.block (s1 _ h.lt.1)).set20 _,qH (zQ h.epo (s1 _ h.lt.1)) (by decide),World.cell?_setCell_same _ _ _ c20,?_,?_,?_,h.lt,?_⟩,⟨?_,?_,?_,?_,fun i hi h2 _ h3=>?_⟩,?_⟩
 ·rw[List.length_append,List.flatMap_append];exact O1.block (by simpa using hown) (fun g hg=>hrk g (by have:=hv g hg;have:=h.lt;omega) (hv g hg).2)
 ·rw[World.frozen?_setCell];exact(World.frozen?_of_block (w:=w) (a:=⟨rb,20,none⟩) (s1 _ h.lt.1)).trans h.free
 ·exact(h.keys.block (s1 _ h.lt.2.1)).block (hrk _ h.lt.2.2 (jv h.lt.2.1 (Nat.le_trans h.bs hgr.size)))
 ·exact Nat.le_trans h.bs (Nat.le_trans hgr.size hg2.size)
 ·exact hg2.os.trans hgr.os
 ·exact hg2.tape.trans hgr.tape
 ·exact hg2.output.trans hgr.output
 ·exact Nat.le_trans hgr.size hg2.size
 ·exact(hrk i h2 (jv hi hgr.size)).trans (hgr.block i hi (fun e=>h3 (bG.2 e.symm)))
 ·intro g hg
  rcases hl with⟨g2,o,cap,e1,e2⟩|⟨e1,_⟩|⟨e1,_⟩
  ·rw[e2] at hg;rw[e1];exact .inl hg
  ·rw[e1] at hg
   cases hg
   exact .inr (Nat.le_refl _)
  ·cases e1
theorem A7.other{w w':World}{rb gp gq gg gh n cap kb ko ep base:Nat}{fa se:Int}{ks:List (Nat×Nat)}{vv:Bal.Bv->List Value}{E:List Bal.Bv}{lv:Value}{mb2 fb2:Nat}{f2:Value->Option Value}(h:A7 w rb gp gq gg gh n cap kb ko ep base fa se ks vv E lv)(ht:Turn w w' mb2 fb2 f2)(hm:mb2<base/\mb2≠rb/\mb2≠kb)(hf:fb2<base/\fb2≠rb/\fb2≠kb)
  (hr:∀g,Zs f2 g->base<=g) (hc:∀g,lv.ownBlock=some g->¬Zs f2 g):A7 w' rb gp gq gg gh n cap kb ko ep base fa se ks vv E lv:=by
 have lo:∀b,b<base->b≠mb2->b≠fb2->w'.heap[b]?=w.heap[b]?:=fun b hb h1 h2=>ht.block b (jv hb h.bs) h1 h2 fun h3=>absurd (hr b h3) (by omega)
 refine h.blocks (lo _ h.lt.1 (Ne.symm hm.2.1) (Ne.symm hf.2.1)) (lo _ h.lt.2.1 (Ne.symm hm.2.2) (Ne.symm hf.2.2)) (fun g hg=>?_) (Nat.le_trans h.bs ht.size);have h1:=qr h.l hg;exact ht.block g h1.2 (by omega) (by omega) (hc g hg)
theorem KH{E:List Bal.Bv}{p:Nat}{y:Bal.Bv}(h:E[p]?=some y) (q:Bal.Bv->Bool):(E.take (p+1)).any q=((E.take p).any q||q y):=by
 rw[List.take_add_one,h]
 simp
theorem bv_eq{x y:Bal.Bv}(h1:y.k=x.k)(h2:y.v=x.v)(h3:y.n=x.n)(h4:y.s=x.s):y=x:=by
 cases x
 cases y
 cases h1
 cases h2
 cases h3
 cases h4
 rfl
theorem dX{rb gp gq gg gh n cap kb ko ep base:Nat}{fa se:Int}{ks:List (Nat×Nat)}{E:List Bal.Bv}{lv:Value}{vv:Bal.Bv->List Value}{k e v nd c s:Nat}{h9:List Nat}(hl:h9.length=32)(hne:e≠ep)(w:World)(h:A7 w rb gp gq gg gh n cap kb ko ep base fa se ks vv E lv):
  Calls prog 10 #[.pointer (some ⟨rb,0,none⟩),qU k e v nd h9 c s] w fun r w'=>r=.returned (.tuple #[.bool false,.int .i64 1])/\Below w.heap.size w w':=by
 have fF:=jh (show¬(e:Int)=(ep:Int) by omega);obtain⟨L,hL⟩:=je (jM k e v nd h9 c s);have UD:L.length=44:=by rw[hL];exact qz hl
 have N9:(prog.info? 71).map (·.size)=some L.toArray.size:=by rw[qg];simp[UD]
 have VF:=jh hL;have aO:=jh UD;have HX:=jh h;obtain⟨LA,SC⟩:=je (L.toArray);have MN:=jh SC;unfold qU;rw[<-hL,<-SC];rw[<-SC] at N9;have I7:=jh N9;clear h hL UD SC hl hne
 go_enter func10,ntmps10
 go_upto_region 1 with fail
 obtain⟨v_1,e1⟩:=je (w.alloc (.cells LA 71));obtain⟨VB,lD⟩:=je (w.heap.size);have HB:=jh (show Below w.heap.size w v_1 by rw[e1];exact ja);have HV:=jh (show v_1.heap[VB]?=some (.cells LA 71 (0,0)) by rw[e1,lD];exact jQ);rw[<-e1,<-lD];have HX:=jh (HX.out.later HB.out);have WV:=jh (show w.heap.size<=VB by omega);clear e1 lD;refine jK [(0,true),(1,true),(2,true),(3,true),(4,true),(5,true),(6,true),(7,true),(8,true),(9,true),(10,true),(11,true),(12,true),(13,false),(14,true),(15,true)] (fun w8=>w8.heap[VB]?=some (.cells LA 71 (0,0))/\A7 w8 rb gp gq gg gh n cap kb ko ep base fa se ks vv E lv) (by kernel_rfl) (by kernel_rfl) (fun _ _ _ _ _ h=>h) (⟨((U3.drew:Below v_1.heap.size v_1 v_1.drew).block _ (J6.1 HV.out).1).trans HV.out,HX.out.later (U3.drew)⟩) (fun hHeld=>?_);refine jq ?_;refine jx (.int .u64 e) rfl (fun w8 hSw=>jd (Jl (EQ (show w8.rangeAt VB 0 (jM k e v nd h9 c s) by have h9:=qL (show w8.heap[VB]?=some (.cells L.toArray 71 (0,0)) by rw[<-MN.out];exact hSw.1);rw[VF.out] at h9;exact h9)))) ?_
 iterate 3
  refine jq ?_
 refine jx (.int .u64 ep) rfl (fun w8 hSw=>jd (Jl hSw.2.epo)) ?_;refine jx (.bool true) rfl (fun w8 hSw=>by have e9:=fF.out;simp[go_sem,e9]) ?_;refine jq ?_
 iterate 5
  refine jR ?_
 refine WP.step rfl (fun K hK=>?_);refine zp (by rfl) ?_;refine qD hK (hHeld) (fun hHeld=>?_);clear hK K;refine jR ?_;refine jq ?_;refine WP.done ?_;clear hHeld
 go_wp2_with fail
 go_ret2
 exact⟨rfl,HB.out.drew⟩
theorem RBPut_no{rb gp gq gg gh n cap kb ko ep base:Nat}{fa se:Int}{ks:List (Nat×Nat)}{E:List Bal.Bv}{lv:Value}{vv:Bal.Bv->List Value}{k v nd c s:Nat}{h9:List Nat}(hl:h9.length=32)(hc:∀W,Y4 W kb ko ks->Calls prog 21 #[zC gp gq gg gh fa se (.slice (some ⟨kb,ko,none⟩) n cap),qU k ep v nd h9 c s] W fun r W'=>r=.returned (.bool false)/\Below W.heap.size W W')(w:World)(h:A7 w rb gp gq gg gh n cap kb ko ep base fa se ks vv E lv):
  Calls prog 10 #[.pointer (some ⟨rb,0,none⟩),qU k ep v nd h9 c s] w fun r w'=>r=.returned (.tuple #[.bool false,.int .i64 1])/\Below w.heap.size w w':=by
 have CK:=jh hc;obtain⟨L,hL⟩:=je (jM k ep v nd h9 c s);have UD:L.length=44:=by rw[hL];exact qz hl
 have N9:(prog.info? 71).map (·.size)=some L.toArray.size:=by rw[qg];simp[UD]
 have VF:=jh hL;have aO:=jh UD;have HX:=jh h;obtain⟨LA,SC⟩:=je (L.toArray);have MN:=jh SC;obtain⟨SV,OC⟩:∃SV,zC gp gq gg gh fa se (.slice (some ⟨kb,ko,none⟩) n cap)=.agg SV:=⟨_,rfl⟩;have lX:=jh OC;unfold qU at CK;rw[OC,<-hL,<-SC] at CK;unfold qU;rw[<-hL,<-SC];rw[<-SC] at N9;have I7:=jh N9;clear h hL UD SC hl hc OC
 go_enter func10,ntmps10
 go_upto_region 1 with fail
 obtain⟨v_1,e1⟩:=je (w.alloc (.cells LA 71));obtain⟨VB,lD⟩:=je (w.heap.size);have HB:=jh (show Below w.heap.size w v_1 by rw[e1];exact ja);have HV:=jh (show v_1.heap[VB]?=some (.cells LA 71 (0,0)) by rw[e1,lD];exact jQ);rw[<-e1,<-lD];have HX:=jh (HX.out.later HB.out);have WV:=jh (show w.heap.size<=VB by omega);clear e1 lD;refine jJ (.take 0 (.take 1 (.take 2 (.take 3 (.take 4 (.take 5 (.take 6 (.take 7 (.take 8 (.take 9 (.take 10 (.take 11 (.take 12 (.step 13 (.take 14 (.take 15 .done)))))))))))))))) (fun w8=>w8.heap[VB]?=some (.cells LA 71 (0,0))/\A7 w8 rb gp gq gg gh n cap kb ko ep base fa se ks vv E lv) (by kernel_rfl) (by kernel_rfl) (fun _ _ _ _ _ h=>h) (⟨((U3.drew:Below v_1.heap.size v_1 v_1.drew).block _ (J6.1 HV.out).1).trans HV.out,HX.out.later (U3.drew)⟩) (fun hHeld=>?_);obtain⟨x1,e1⟩:=je (v_1.drew);rw[<-e1];have hb:Below v_1.heap.size v_1 x1:=by rw[e1];exact U3.drew
 clear e1;have HV:=jb hb HV;have HX:=jh (HX.out.later hb);have HB:=jw HB hb;clear hb;refine jz ?_;refine jH (.int .u64 ep) rfl (fun w8 hSw=>jd (Jl (EQ (show w8.rangeAt VB 0 (jM k ep v nd h9 c s) by have h9:=qL (show w8.heap[VB]?=some (.cells L.toArray 71 (0,0)) by rw[<-MN.out];exact hSw.1);rw[VF.out] at h9;exact h9)))) ?_
 iterate 3
  refine jz ?_
 refine jH (.int .u64 ep) rfl (fun w8 hSw=>jd (Jl hSw.2.epo)) ?_;refine jH (.bool false) rfl (fun w8 hSw=>by simp[go_sem]) ?_
 iterate 4
  refine jz ?_
 refine jH (.agg SV) rfl (fun w8 hSw=>by rw[<-lX.out];exact jd (Qr hSw.2.set)) ?_;refine jH (.agg LA) rfl (fun w8 hSw=>jd (qO hSw.1 underlying71 rfl I7.out)) ?_;refine WT.step rfl (fun K hK=>?_)
 go_simp
 refine(CK.out _ HX.out.keys).mono ?_;rintro _ x2 ⟨rfl,hb⟩;have HV:=jb hb HV;have HX:=jh (HX.out.later hb);have HB:=jw HB hb;clear hb;refine qD hK (⟨HV.out,HX.out⟩) (fun hHeld=>?_);clear hK K;refine jz ?_;refine jz ?_;refine WT.done ?_;clear hHeld
 go_wp2_with fail
 go_ret2
 exact⟨rfl,HB.out⟩
theorem KZ{rb gp gq gg gh n cap kb ko ep base:Nat}{fa se:Int}{ks:List (Nat×Nat)}{E:List Bal.Bv}{lv:Value}{C S:Bal.Bv->Nat}{x:Bal.Bv}{c s:Nat}(hE:E.length<=1000)(hc:∀W,Y4 W kb ko ks->Calls prog 21 #[zC gp gq gg gh fa se (.slice (some ⟨kb,ko,none⟩) n cap),qU x.k ep x.v x.n (hsL x.s) c s] W fun r W'=>r=.returned (.bool true)/\Below W.heap.size W W')(hcs:x∉E->c=C x/\s=S x)(w:World)(h:A7 w rb gp gq gg gh n cap kb ko ep base fa se ks (qS ep C S) E lv):
  Calls prog 10 #[.pointer (some ⟨rb,0,none⟩),qU x.k ep x.v x.n (hsL x.s) c s] w fun r w'=>(x∈E/\r=.returned (.tuple #[.bool false,.int .i64 0])/\Below w.heap.size w w')∨(x∉E/\r=.returned (.tuple #[.bool (decide ((Bal.at_ E x.k x.v x.n).length=0)),.int .i64 (if(Bal.at_ E x.k x.v x.n).length=0 then 0 else 8)])/\∃lv',A7 w' rb gp gq gg gh n cap kb ko ep base fa se ks (qS ep C S) (E++[x]) lv'/\Turn w w' rb rb (fun _=>some lv)/\∀g,lv'.ownBlock=some g->lv.ownBlock=some g∨w.heap.size<=g):=by
 obtain⟨B9,hB9⟩:=je (decide ((Bal.at_ E x.k x.v x.n).length=0));obtain⟨I9,hI9⟩:∃b:Int,b=(if(Bal.at_ E x.k x.v x.n).length=0 then 0 else 8):=⟨_,rfl⟩;rw[<-hB9,<-hI9];have IC:=jh hB9;have HI9:=jh hI9;clear hB9 hI9;obtain⟨m,hm⟩:=je (E.length);have HM:=jh hm;obtain⟨a,cp,hlv⟩:=h.l.sl;have aU:=jh hlv;have mI:(m:Int)<=1000:=by omega
 have HCS:=jh hcs;have HEL:=jh hE;have N7:=jh (fun g (hg:lv.ownBlock=some g)=>qr h.l hg);have X4:=jh h.bs;have O7:=jh h.lt;clear hlv hE hcs;have CK:=jh hc;obtain⟨L,hL⟩:=je (jM x.k ep x.v x.n (hsL x.s) c s);have UD:L.length=44:=by rw[hL];exact qz (qt _)
 have N9:(prog.info? 71).map (·.size)=some L.toArray.size:=by rw[qg];simp[UD]
 have VF:=jh hL;have aO:=jh UD;have HX:=jh h;obtain⟨LA,SC⟩:=je (L.toArray);have MN:=jh SC;obtain⟨SV,OC⟩:∃SV,zC gp gq gg gh fa se (.slice (some ⟨kb,ko,none⟩) n cap)=.agg SV:=⟨_,rfl⟩;have lX:=jh OC;unfold qU at CK;rw[OC,<-hL,<-SC] at CK;have H1L:=jh (show∀u∈L,u.oneCell'=true by rw[hL];exact yE _ _ _ _ _ _ _);unfold qU;rw[<-hL,<-SC];rw[<-SC] at N9;have I7:=jh N9;clear h hL UD SC hm hc OC
 go_enter func10,ntmps10
 go_upto_region 1 with fail
 obtain⟨v_1,e1⟩:=je (w.alloc (.cells LA 71));obtain⟨VB,lD⟩:=je (w.heap.size);have HB:=jh (show Below w.heap.size w v_1 by rw[e1];exact ja);have HV:=jh (show v_1.heap[VB]?=some (.cells LA 71 (0,0)) by rw[e1,lD];exact jQ);rw[<-e1,<-lD];have HX:=jh (HX.out.later HB.out);have WV:=jh (show w.heap.size<=VB by omega);clear e1 lD;refine jJ (.take 0 (.take 1 (.take 2 (.take 3 (.take 4 (.take 5 (.take 6 (.take 7 (.take 8 (.take 9 (.take 10 (.take 11 (.take 12 (.step 13 (.take 14 (.take 15 .done)))))))))))))))) (fun w8=>w8.heap[VB]?=some (.cells LA 71 (0,0))/\A7 w8 rb gp gq gg gh n cap kb ko ep base fa se ks (qS ep C S) E lv) (by kernel_rfl) (by kernel_rfl) (fun _ _ _ _ _ h=>h) (⟨((U3.drew:Below v_1.heap.size v_1 v_1.drew).block _ (J6.1 HV.out).1).trans HV.out,HX.out.later (U3.drew)⟩) (fun hHeld=>?_);obtain⟨x1,e1⟩:=je (v_1.drew);rw[<-e1];have hb:Below v_1.heap.size v_1 x1:=by rw[e1];exact U3.drew
 clear e1;have HV:=jb hb HV;have HX:=jh (HX.out.later hb);have HB:=jw HB hb;clear hb;refine jz ?_;refine jH (.int .u64 ep) rfl (fun w8 hSw=>jd (Jl (EQ (show w8.rangeAt VB 0 (jM x.k ep x.v x.n (hsL x.s) c s) by have h9:=qL (show w8.heap[VB]?=some (.cells L.toArray 71 (0,0)) by rw[<-MN.out];exact hSw.1);rw[VF.out] at h9;exact h9)))) ?_
 iterate 3
  refine jz ?_
 refine jH (.int .u64 ep) rfl (fun w8 hSw=>jd (Jl hSw.2.epo)) ?_;refine jH (.bool false) rfl (fun w8 hSw=>by simp[go_sem]) ?_
 iterate 4
  refine jz ?_
 refine jH (.agg SV) rfl (fun w8 hSw=>by rw[<-lX.out];exact jd (Qr hSw.2.set)) ?_;refine jH (.agg LA) rfl (fun w8 hSw=>jd (qO hSw.1 underlying71 rfl I7.out)) ?_;refine WT.step rfl (fun K hK=>?_)
 go_simp
 refine(CK.out _ HX.out.keys).mono ?_;rintro _ x2 ⟨rfl,hb⟩;have HV:=jb hb HV;have HX:=jh (HX.out.later hb);have HB:=jw HB hb;clear hb;refine qD hK (⟨HV.out,HX.out⟩) (fun hHeld=>?_);clear hK K;refine jz ?_;refine jz ?_;refine WT.done ?_;clear hHeld;have HR:=jh (show x2.rangeAt VB 0 (jM x.k ep x.v x.n (hsL x.s) c s) by have hrg:=qL (show x2.heap[VB]?=some (.cells L.toArray 71 (0,0)) by rw[<-MN.out];exact HV.out);rw[VF.out] at hrg;exact hrg)
 go_wp2_with fail
 go_loopw [6,7] (fun ot i wr=>∃p:Nat,p<=m/\i=.int .i64 p/\ot=.bool ((E.take p).any fun y=>decide (y.k=x.k/\y.v=x.v/\y.n=x.n))/\Hid (∀q y,q<p->E[q]?=some y->y≠x)/\Hid (Below x2.heap.size x2 wr)) (fun _ i _=>m-(intOf i).toNat)
 case atStart=>exact⟨0,Nat.zero_le _,rfl,rfl,jh (fun q y hq=>absurd hq (Nat.not_lt_zero _)),jh U3⟩
 case round=>
  obtain⟨p,hp,rfl,rfl,HP,HW⟩:=hrel;have HXr:=jh (HX.out.later HW.out);have HRr:=jh (ju HR.out HW.out);have c20:=HXr.out.lc;rw[aU.out,<-HM.out] at c20
  by_cases hlt:p<m
  ·have O6:(p:Int)<(m:Int):=by omega
   obtain⟨y,hy⟩:∃y,E[p]?=some y:=⟨_,Jd (by rw[<-HM.out];exact hlt)⟩;obtain⟨g,o,c9,e9,hr⟩:=HXr.out.at (ql ep C S) hy;rw[aU.out,<-HM.out] at e9;injection e9 with e1 _ e2
   subst e1;subst e2;have HY:=jh hy;have HRY:=jh (show wr.rangeAt g (o+p*44) (jM y.k ep y.v y.n (hsL y.s) (C y) (S y)) from hr);have nX:=jh c20;have G7:=jh hlt;clear hy hr hlt
   go_upto_region 7 with fail
   clear c20
   by_cases h1:y.k=x.k
   rotate_left
   ·have HQ:=jh h1;have HN:=jh (show y≠x from fun e=>HQ.out (by rw[e]));have QK:=jh (show(((y.k:Int)==(x.k:Int))=false) from beq_eq_false_iff_ne.2 (by have:=HQ.out;omega));clear h1;refine jK [(0,true),(1,true),(2,true),(3,true),(4,true),(5,true),(6,true),(7,true),(8,true),(9,true),(10,true),(11,true),(12,true),(13,true),(14,true),(15,true),(16,true),(17,true),(18,true),(19,true),(20,true),(21,true),(22,true),(23,true),(24,true),(25,true),(26,true),(27,true),(28,true),(29,true),(30,true),(31,true),(32,true),(33,true),(34,true),(35,true),(36,true)] (fun w8=>w8.cell? ⟨rb,20,none⟩=some (.slice (some ⟨g,o,none⟩) m cp)/\w8.rangeAt g (o+p*44) (jM y.k ep y.v y.n (hsL y.s) (C y) (S y))/\w8.rangeAt VB 0 (jM x.k ep x.v x.n (hsL x.s) c s)) (by kernel_rfl) (by kernel_rfl) (fun _ _ _ _ _ h=>h) (⟨jj nX.out (U3.drew),ju HRY.out (U3.drew),ju HRr.out (U3.drew)⟩) (fun hHeld=>?_)
    iterate 3
     refine jq ?_
    refine jx (.slice (some ⟨g,o,none⟩) m cp) rfl (fun w8 hSw=>jd (Qh hSw.1)) ?_;refine jq ?_;refine jx (jP g (o+p*44)) rfl (fun w8 hSw=>by simp[go_sem,O6]) ?_;refine jq ?_;refine jx (.int .u8 y.k) rfl (fun w8 hSw=>jd (Ju (Qp hSw.2.1))) ?_;refine jq ?_;refine jx (.int .u8 x.k) rfl (fun w8 hSw=>jd (Ju (Qp hSw.2.2))) ?_;refine jx (.bool false) rfl (fun w8 hSw=>by have e9:=HQ.out;simp[go_sem];omega) ?_;refine jq ?_
    iterate 11
     refine jR ?_
    refine jq ?_;refine jq ?_
    iterate 11
     refine jR ?_
    refine jq ?_;refine WP.done ?_;clear hHeld
    go_wp2_with fail
    go_roundw
    case rel=>exact⟨p+1,by have:=G7.out;omega,by go_num,by rw[KH HY.out,decide_eq_false (fun e=>HQ.out e.1),Bool.or_false],jh (fun q z hq hz=>by by_cases e:q=p;(subst e;rw[HY.out] at hz;cases hz;exact HN.out);exact HP.out q z (by omega) hz),jh (HW.out.drew)⟩
    case measure=>simp[intOf];have:=G7.out;omega
   have HK:=jh h1;have QK:=jh (show(((y.k:Int)==(x.k:Int))=true) from beq_iff_eq.2 (by omega));clear h1
   by_cases h1:y.v=x.v
   rotate_left
   ·have HQ:=jh h1;have HN:=jh (show y≠x from fun e=>HQ.out (by rw[e]));have QV:=jh (show(((y.v:Int)==(x.v:Int))=false) from beq_eq_false_iff_ne.2 (by have:=HQ.out;omega));clear h1;refine jK [(0,true),(1,true),(2,true),(3,true),(4,true),(5,true),(6,true),(7,true),(8,true),(9,true),(10,true),(11,true),(12,true),(13,true),(14,true),(15,true),(16,true),(17,true),(18,true),(19,true),(20,true),(21,true),(22,true),(23,true),(24,true),(25,true),(26,true),(27,true),(28,true),(29,true),(30,true),(31,true),(32,true),(33,true),(34,true),(35,true),(36,true)] (fun w8=>w8.cell? ⟨rb,20,none⟩=some (.slice (some ⟨g,o,none⟩) m cp)/\w8.rangeAt g (o+p*44) (jM y.k ep y.v y.n (hsL y.s) (C y) (S y))/\w8.rangeAt VB 0 (jM x.k ep x.v x.n (hsL x.s) c s)) (by kernel_rfl) (by kernel_rfl) (fun _ _ _ _ _ h=>h) (⟨jj nX.out (U3.drew),ju HRY.out (U3.drew),ju HRr.out (U3.drew)⟩) (fun hHeld=>?_)
    iterate 3
     refine jq ?_
    refine jx (.slice (some ⟨g,o,none⟩) m cp) rfl (fun w8 hSw=>jd (Qh hSw.1)) ?_;refine jq ?_;refine jx (jP g (o+p*44)) rfl (fun w8 hSw=>by simp[go_sem,O6]) ?_;refine jq ?_;refine jx (.int .u8 y.k) rfl (fun w8 hSw=>jd (Ju (Qp hSw.2.1))) ?_;refine jq ?_;refine jx (.int .u8 x.k) rfl (fun w8 hSw=>jd (Ju (Qp hSw.2.2))) ?_;refine jx (.bool true) rfl (fun w8 hSw=>by have e9:=HK.out;simp[go_sem,e9]) ?_
    iterate 4
     refine jq ?_
    refine jx (.slice (some ⟨g,o,none⟩) m cp) rfl (fun w8 hSw=>jd (Qh hSw.1)) ?_;refine jq ?_;refine jx (jP g (o+p*44)) rfl (fun w8 hSw=>by simp[go_sem,O6]) ?_;refine jq ?_;refine jx (.int .u32 y.v) rfl (fun w8 hSw=>jd (zU (Qf hSw.2.1))) ?_;refine jq ?_;refine jx (.int .u32 x.v) rfl (fun w8 hSw=>jd (zU (Qf hSw.2.2))) ?_;refine jx (.bool false) rfl (fun w8 hSw=>by have e9:=HQ.out;simp[go_sem];omega) ?_;refine jq ?_;refine jq ?_
    iterate 11
     refine jR ?_
    refine jq ?_;refine WP.done ?_;clear hHeld
    go_wp2_with fail
    go_roundw
    case rel=>exact⟨p+1,by have:=G7.out;omega,by go_num,by rw[KH HY.out,decide_eq_false (fun e=>HQ.out e.2.1),Bool.or_false],jh (fun q z hq hz=>by by_cases e:q=p;(subst e;rw[HY.out] at hz;cases hz;exact HN.out);exact HP.out q z (by omega) hz),jh (HW.out.drew)⟩
    case measure=>simp[intOf];have:=G7.out;omega
   have HV9:=jh h1;have QV:=jh (show(((y.v:Int)==(x.v:Int))=true) from beq_iff_eq.2 (by omega));clear h1
   by_cases h1:y.n=x.n
   rotate_left
   ·have HQ:=jh h1;have HN:=jh (show y≠x from fun e=>HQ.out (by rw[e]));have QN:=jh (show(((y.n:Int)==(x.n:Int))=false) from beq_eq_false_iff_ne.2 (by have:=HQ.out;omega));clear h1;refine jK [(0,true),(1,true),(2,true),(3,true),(4,true),(5,true),(6,true),(7,true),(8,true),(9,true),(10,true),(11,true),(12,true),(13,true),(14,true),(15,true),(16,true),(17,true),(18,true),(19,true),(20,true),(21,true),(22,true),(23,true),(24,true),(25,true),(26,true),(27,true),(28,true),(29,true),(30,true),(31,true),(32,true),(33,true),(34,true),(35,true),(36,true)] (fun w8=>w8.cell? ⟨rb,20,none⟩=some (.slice (some ⟨g,o,none⟩) m cp)/\w8.rangeAt g (o+p*44) (jM y.k ep y.v y.n (hsL y.s) (C y) (S y))/\w8.rangeAt VB 0 (jM x.k ep x.v x.n (hsL x.s) c s)) (by kernel_rfl) (by kernel_rfl) (fun _ _ _ _ _ h=>h) (⟨jj nX.out (U3.drew),ju HRY.out (U3.drew),ju HRr.out (U3.drew)⟩) (fun hHeld=>?_)
    iterate 3
     refine jq ?_
    refine jx (.slice (some ⟨g,o,none⟩) m cp) rfl (fun w8 hSw=>jd (Qh hSw.1)) ?_;refine jq ?_;refine jx (jP g (o+p*44)) rfl (fun w8 hSw=>by simp[go_sem,O6]) ?_;refine jq ?_;refine jx (.int .u8 y.k) rfl (fun w8 hSw=>jd (Ju (Qp hSw.2.1))) ?_;refine jq ?_;refine jx (.int .u8 x.k) rfl (fun w8 hSw=>jd (Ju (Qp hSw.2.2))) ?_;refine jx (.bool true) rfl (fun w8 hSw=>by have e9:=HK.out;simp[go_sem,e9]) ?_
    iterate 4
     refine jq ?_
    refine jx (.slice (some ⟨g,o,none⟩) m cp) rfl (fun w8 hSw=>jd (Qh hSw.1)) ?_;refine jq ?_;refine jx (jP g (o+p*44)) rfl (fun w8 hSw=>by simp[go_sem,O6]) ?_;refine jq ?_;refine jx (.int .u32 y.v) rfl (fun w8 hSw=>jd (zU (Qf hSw.2.1))) ?_;refine jq ?_;refine jx (.int .u32 x.v) rfl (fun w8 hSw=>jd (zU (Qf hSw.2.2))) ?_;refine jx (.bool true) rfl (fun w8 hSw=>by have e9:=HV9.out;simp[go_sem,e9]) ?_
    iterate 5
     refine jq ?_
    refine jx (.slice (some ⟨g,o,none⟩) m cp) rfl (fun w8 hSw=>jd (Qh hSw.1)) ?_;refine jq ?_;refine jx (jP g (o+p*44)) rfl (fun w8 hSw=>by simp[go_sem,O6]) ?_;refine jq ?_;refine jx (.int .u8 y.n) rfl (fun w8 hSw=>jd (fM (Zq hSw.2.1))) ?_;refine jq ?_;refine jx (.int .u8 x.n) rfl (fun w8 hSw=>jd (fM (Zq hSw.2.2))) ?_;refine jx (.bool false) rfl (fun w8 hSw=>by have e9:=HQ.out;simp[go_sem];omega) ?_;refine jq ?_;refine WP.done ?_;clear hHeld
    go_wp2_with fail
    go_roundw
    case rel=>exact⟨p+1,by have:=G7.out;omega,by go_num,by rw[KH HY.out,decide_eq_false (fun e=>HQ.out e.2.2),Bool.or_false],jh (fun q z hq hz=>by by_cases e:q=p;(subst e;rw[HY.out] at hz;cases hz;exact HN.out);exact HP.out q z (by omega) hz),jh (HW.out.drew)⟩
    case measure=>simp[intOf];have:=G7.out;omega
   have nD:=jh h1;have QN:=jh (show(((y.n:Int)==(x.n:Int))=true) from beq_iff_eq.2 (by omega));clear h1;refine jK [(0,true),(1,true),(2,true),(3,true),(4,true),(5,true),(6,true),(7,true),(8,true),(9,true),(10,true),(11,true),(12,true),(13,true),(14,true),(15,true),(16,true),(17,true),(18,true),(19,true),(20,true),(21,true),(22,true),(23,true),(24,true),(25,true),(26,true),(27,true),(28,true),(29,true),(30,true),(31,true),(32,true),(33,true),(34,true),(35,true),(36,true)] (fun w8=>w8.cell? ⟨rb,20,none⟩=some (.slice (some ⟨g,o,none⟩) m cp)/\w8.rangeAt g (o+p*44) (jM y.k ep y.v y.n (hsL y.s) (C y) (S y))/\w8.rangeAt VB 0 (jM x.k ep x.v x.n (hsL x.s) c s)) (by kernel_rfl) (by kernel_rfl) (fun _ _ _ _ _ h=>h) (⟨jj nX.out (U3.drew),ju HRY.out (U3.drew),ju HRr.out (U3.drew)⟩) (fun hHeld=>?_)
   iterate 3
    refine jq ?_
   refine jx (.slice (some ⟨g,o,none⟩) m cp) rfl (fun w8 hSw=>jd (Qh hSw.1)) ?_;refine jq ?_;refine jx (jP g (o+p*44)) rfl (fun w8 hSw=>by simp[go_sem,O6]) ?_;refine jq ?_;refine jx (.int .u8 y.k) rfl (fun w8 hSw=>jd (Ju (Qp hSw.2.1))) ?_;refine jq ?_;refine jx (.int .u8 x.k) rfl (fun w8 hSw=>jd (Ju (Qp hSw.2.2))) ?_;refine jx (.bool true) rfl (fun w8 hSw=>by have e9:=HK.out;simp[go_sem,e9]) ?_
   iterate 4
    refine jq ?_
   refine jx (.slice (some ⟨g,o,none⟩) m cp) rfl (fun w8 hSw=>jd (Qh hSw.1)) ?_;refine jq ?_;refine jx (jP g (o+p*44)) rfl (fun w8 hSw=>by simp[go_sem,O6]) ?_;refine jq ?_;refine jx (.int .u32 y.v) rfl (fun w8 hSw=>jd (zU (Qf hSw.2.1))) ?_;refine jq ?_;refine jx (.int .u32 x.v) rfl (fun w8 hSw=>jd (zU (Qf hSw.2.2))) ?_;refine jx (.bool true) rfl (fun w8 hSw=>by have e9:=HV9.out;simp[go_sem,e9]) ?_
   iterate 5
    refine jq ?_
   refine jx (.slice (some ⟨g,o,none⟩) m cp) rfl (fun w8 hSw=>jd (Qh hSw.1)) ?_;refine jq ?_;refine jx (jP g (o+p*44)) rfl (fun w8 hSw=>by simp[go_sem,O6]) ?_;refine jq ?_;refine jx (.int .u8 y.n) rfl (fun w8 hSw=>jd (fM (Zq hSw.2.1))) ?_;refine jq ?_;refine jx (.int .u8 x.n) rfl (fun w8 hSw=>jd (fM (Zq hSw.2.2))) ?_;refine jx (.bool true) rfl (fun w8 hSw=>by have e9:=nD.out;simp[go_sem,e9]) ?_;refine jq ?_;refine WP.done ?_;have HAT:=jh (show((E.take (p+1)).any fun y=>decide (y.k=x.k/\y.v=x.v/\y.n=x.n))=true by rw[KH HY.out,decide_eq_true ⟨HK.out,HV9.out,nD.out⟩,Bool.or_true]);clear hHeld
   go_upto_region 8 with fail
   refine jK [(0,true),(1,true),(2,true),(3,true),(4,true),(5,true),(6,true),(7,true),(8,true),(9,true),(10,true)] (fun w8=>w8.cell? ⟨rb,20,none⟩=some (.slice (some ⟨g,o,none⟩) m cp)/\w8.rangeAt g (o+p*44) (jM y.k ep y.v y.n (hsL y.s) (C y) (S y))/\w8.rangeAt VB 0 (jM x.k ep x.v x.n (hsL x.s) c s)) (by kernel_rfl) (by kernel_rfl) (fun _ _ _ _ _ h=>h) (⟨jj nX.out (U3.drew.drew),ju HRY.out (U3.drew.drew),ju HRr.out (U3.drew.drew)⟩) (fun hHeld=>?_)
   iterate 3
    refine jq ?_
   refine jx (.slice (some ⟨g,o,none⟩) m cp) rfl (fun w8 hSw=>jd (Qh hSw.1)) ?_;refine jq ?_;refine jx (jP g (o+p*44)) rfl (fun w8 hSw=>by simp[go_sem,O6]) ?_;refine jq ?_;refine jx (.agg (jo .u8 (hsL y.s)).toArray) rfl (fun w8 hSw=>jd (JO hSw.2.1 (qt _))) ?_;refine jq ?_;refine jx (.agg (jo .u8 (hsL x.s)).toArray) rfl (fun w8 hSw=>jd (JO hSw.2.2 (qt _))) ?_;refine jx (.bool (decide (y.s=x.s))) rfl (fun w8 hSw=>jd (dK y.s x.s w8)) ?_;refine WP.done ?_
   by_cases hs9:y.s=x.s
   ·have HXE:=jh (show x∈E from(show y=x from bv_eq HK.out HV9.out nD.out hs9)▸List.mem_of_getElem? HY.out);have hsD:decide (y.s=x.s)=true:=decide_eq_true hs9;rw[hsD];clear hHeld hs9 hsD
    go_wp2_with fail
    go_ret2
    exact .inl ⟨HXE.out,rfl,jm HB.out HW.out.drew.drew⟩
   ·have HN:=jh (show y≠x from fun e=>hs9 (by rw[e]));have hsD:decide (y.s=x.s)=false:=decide_eq_false hs9;rw[hsD];clear hs9 hsD;clear hHeld
    go_wp2_with fail
    go_roundw
    case rel=>exact⟨p+1,by have:=G7.out;omega,by go_num,by rw[HAT.out],jh (fun q z hq hz=>by by_cases e:q=p;(subst e;rw[HY.out] at hz;cases hz;exact HN.out);exact HP.out q z (by omega) hz),jh (HW.out.drew.drew)⟩
    case measure=>simp[intOf];have:=G7.out;omega
  ·obtain rfl:p=m:=by omega
   have HXE:=jh (show x∉E from fun e=>by obtain⟨i,hi⟩:=List.mem_iff_getElem?.1 e;exact HP.out i x (by rw[HM.out];exact(List.getElem?_eq_some_iff.1 hi).1) hi rfl);have HAN:=jh (show((E.take p).any fun y=>decide (y.k=x.k/\y.v=x.v/\y.n=x.n))=!B9 by rw[HM.out,List.take_length,Bal.put_other,IC.out];simp);rw[HAN.out];obtain⟨cc,cs⟩:=HCS.out HXE.out;have HLC:=jh (show L=qS ep C S x by rw[VF.out,cc,cs];rfl);have HVr:=jh ((HW.out.block _ (J6.1 HV.out).1).trans HV.out);obtain⟨iv,zv,hiv,hzv,hv1,hv2,hv3⟩:=QJ;have HI2:=jh hiv;have HZ:=jh hzv;have HZ1:=jh hv1;have HZ2:=jh hv2;have HZ3:=jh hv3;have nX:=jh c20;clear hiv hzv hv1 hv2 hv3 cc cs
   go_upto_region 11 with fail
   clear c20;refine jJ (.take 0 (.take 1 (.take 2 (.take 3 (.take 5 (.fork 4 (.step 6 (.step 7 (.take 8 (.take 9 (.step 10 .done))))) 6 (.step 4 (.step 7 (.take 8 (.take 9 (.step 10 .done))))))))))) (fun w8=>w8.heap[VB]?=some (.cells LA 71 (0,0))) (by kernel_rfl) (by kernel_rfl) (fun _ _ _ _ _ h=>h) (((U3.drew:Below wr.heap.size wr wr.drew).block _ (J6.1 HVr.out).1).trans HVr.out) (fun hHeld=>?_);obtain⟨y4,e1⟩:=je (wr.drew);rw[<-e1];have hb:Below wr.heap.size wr y4:=by rw[e1];exact U3.drew
   have HXa:=HXr;have HBa:=jh (jm HB.out HW.out);have HVa:=HVr;clear e1;have HXa:=jh (HXa.out.later hb);have HBa:=jw HBa hb;have HVa:=jb hb HVa;clear hb
   iterate 4
    refine jz ?_
   refine jH (.agg LA) rfl (fun w8 hSw=>jd (qO hSw underlying71 rfl I7.out)) ?_
   focus
    refine WT.fork rfl rfl (fun K hK=>?_) (fun K hK=>?_)
   rotate_left
   focus
    refine zX (v:=.slice (some ⟨y4.heap.size,0,none⟩) 1 1) (w':=y4.alloc (.cells L.toArray 71)) (by rfl) (JA aO.out rfl (by rw[<-MN.out];rfl)) ?_;obtain⟨wa,AB,e9,h9,hb⟩:=qJ y4 (.cells L.toArray 71);have HA:=jh (show wa.heap[AB]?=some (.cells L.toArray 71 (0,0)) by rw[e9,h9];exact jQ);rw[<-e9,<-h9];clear e9 h9;have HXa:=jh (HXa.out.later hb);have HBa:=jw HBa hb;have HVa:=jb hb HVa;clear hb;refine qD hK (HVa.out) (fun hHeld=>?_);clear hK K
   rotate_right
   focus
    have hc4:=HXa.out.lc;rw[aU.out,<-HM.out] at hc4;refine Qg (v:=.slice a p cp) (by rfl) (jd (Qh hc4)) ?_;clear hc4;refine qD hK (HVa.out) (fun hHeld=>?_);clear hK K
   focus
    refine WT.step rfl (fun K hK=>?_);refine zX (v:=.slice (some ⟨y4.heap.size,0,none⟩) 1 1) (w':=y4.alloc (.cells L.toArray 71)) (by rfl) (JA aO.out rfl (by rw[<-MN.out];rfl)) ?_;obtain⟨wa,AB,e9,h9,hb⟩:=qJ y4 (.cells L.toArray 71);have HA:=jh (show wa.heap[AB]?=some (.cells L.toArray 71 (0,0)) by rw[e9,h9];exact jQ);rw[<-e9,<-h9];clear e9 h9;have HXa:=jh (HXa.out.later hb);have HBa:=jw HBa hb;have HVa:=jb hb HVa;clear hb;refine qD hK (HVa.out) (fun hHeld=>?_);clear hK K
   rotate_right
   focus
    refine WT.step rfl (fun K hK=>?_);have hc4:=HXa.out.lc;rw[aU.out,<-HM.out] at hc4;refine Qg (v:=.slice a p cp) (by rfl) (jd (Qh hc4)) ?_;clear hc4;refine qD hK (HVa.out) (fun hHeld=>?_);clear hK K
   rotate_left
   all_goals(
    refine WT.step rfl (fun K hK=>?_);have fJ:=HXa.out.l;rw[aU.out,<-HM.out] at fJ;have HL9:=jh fJ;clear fJ;refine JI rfl _ _ 30 rfl base 71 iv zv 44 iv.bytes underlying30 HI2.out HZ.out HZ1.out rfl HZ3.out (.slice a p cp) p _ rfl HL9.out _ 1 L rfl (FU HA.out aO.out H1L.out) (by unfold maxLen;omega) (by have h2:=HZ2.out;have h3:(p+1)*iv.bytes<=1001*1000:=Nat.mul_le_mul (by omega) h2;omega) HXa.out.bs ?_;intro v3 wb ho3 hg3 hl3;obtain⟨a3,c3,rfl⟩:=ho3.sl;have IJ:∀q,(q<base∨w.heap.size<=q)->some q≠(Value.slice a p cp).ownBlock:=fun q hq e=>by have h9:=N7.out q (by rw[aU.out,<-HM.out];exact e.symm);omega
    have HV3:=jh (Jh HVa.out hg3 (IJ _ (.inr WV.out)));have hc3:=HXa.out.lc;rw[aU.out,<-HM.out] at hc3;have HC3:=jh (zF hc3 hg3 (IJ _ (.inl O7.out.1)));have HF3:=jh ((qI (hg3.block rb (jv O7.out.1 HXa.out.bs) (IJ _ (.inl O7.out.1)))).trans HXa.out.free);have HP9:=jh (HXa.out.put x (by rw[<-HM.out];rw[<-HLC.out];exact ho3) (by rw[aU.out,<-HM.out];exact hg3) (by rw[aU.out,<-HM.out];exact hl3));clear ho3 hg3 hl3 IJ hc3;refine qD hK (HV3.out) (fun hHeld=>?_);clear hK K;refine jz ?_;refine jz ?_;refine WT.step rfl (fun K hK=>?_);have c0:=HC3.out;have g0:=HF3.out
    go_simp
    clear c0 g0;obtain⟨wd,e9⟩:=je (wb.setCell ⟨rb,20,none⟩ (.slice a3 (p+1) c3));rw[<-e9] at HP9⊢;have HVd:=jh (show wd.heap[VB]?=some (.cells LA 71 (0,0)) by rw[e9];exact Jh HV3.out (Jq wb rb 20 _) (fun e=>by injection e with e;have:=WV.out;have h1:=O7.out;have h2:=X4.out;omega));clear e9;refine qD hK (HVd.out) (fun hHeld=>?_);clear hK K;refine WT.done ?_;clear hHeld
    by_cases hr0:(Bal.at_ E x.k x.v x.n).length=0
    ·have hB:B9=true:=by rw[IC.out];exact decide_eq_true hr0
     have hI:I9=0:=by rw[HI9.out];exact if_pos hr0
     subst hB;subst hI;clear hr0
     go_wp2_with fail
     go_ret2
     obtain⟨q1,q2,q3⟩:=HP9.out;refine .inr ⟨HXE.out,?_,_,q1,Turn.after HBa.out q2,fun g hg=>(q3 g hg).imp id (Nat.le_trans HBa.out.size)⟩
     rfl
    ·have hB:B9=false:=by rw[IC.out];exact decide_eq_false hr0
     have hI:I9=8:=by rw[HI9.out];exact if_neg hr0
     subst hB;subst hI;clear hr0
     go_wp2_with fail
     go_ret2
     obtain⟨q1,q2,q3⟩:=HP9.out;refine .inr ⟨HXE.out,?_,_,q1,Turn.after HBa.out q2,fun g hg=>(q3 g hg).imp id (Nat.le_trans HBa.out.size)⟩
     rfl)
def hit(k v:Nat)(s:Bal.H32)(j:Nat)(x:Bal.Bv):Bool:=decide (x.k=k/\x.v=v/\x.s=s/\x.n=j+1)
def YG(E:List Bal.Bv)(k v:Nat)(s:Bal.H32)(j:Nat):List Bal.Bv:=(List.range j).flatMap fun i=>E.filter (hit k v s i)
theorem EP(E:List Bal.Bv)(k v:Nat)(s:Bal.H32)(j:Nat):YG E k v s (j+1)=YG E k v s j++E.filter (hit k v s j):=by
 unfold YG;rw[List.range_succ,List.flatMap_append]
 simp
theorem TU(E:List Bal.Bv)(k v:Nat)(s:Bal.H32):∀j,(YG E k v s j).length<=j*E.length
 |0=>by simp[YG]
 |j+1=>by
  have h1:=TU E k v s j;have h2:=List.length_filter_le (hit k v s j) E;rw[EP,List.length_append,Nat.succ_mul];omega
theorem TD{E:List Bal.Bv}{p:Nat}{x:Bal.Bv}(h:E[p]?=some x) (q:Bal.Bv->Bool):(E.take (p+1)).filter q=(E.take p).filter q++if q x=true then[x] else[]:=by
 rw[List.take_add_one,h,List.filter_append]
 simp[List.filter_cons]
theorem rJ{rb gp gq gg gh n cap kb ko ep base k v:Nat}{s:Bal.H32}{fa se:Int}{ks:List (Nat×Nat)}{C S:Bal.Bv->Nat}{E:List Bal.Bv}{lv:Value}(hE:E.length<=1000)(hn7:n<=7)(hEn:∀x∈E,x.n<256)(w:World)(h:A7 w rb gp gq gg gh n cap kb ko ep base fa se ks (qS ep C S) E lv):
  Calls prog 13 #[.pointer (some ⟨rb,0,none⟩),.int .u8 k,.int .u32 v,.agg (jo .u8 (hsL s)).toArray] w fun r w'=>∃u,r=.returned u/\O1 w' w.heap.size 71 44 u (Bal.votesOf E n k v s).length ((Bal.votesOf E n k v s).flatMap (qS ep C S))/\Below w.heap.size w w':=by
 have HN8:=jh hEn;have DX:=jh (show YG E k v s n=Bal.votesOf E n k v s from Bal.votes_list E n k v s);obtain⟨T,hT⟩:=je ((jo .u8 (hsL s)).toArray);have hTs:T.size=32:=by rw[hT];simp[js,qt]
 have kC:(prog.info? 67).map (·.size)=some T.size:=by rw[qR,hTs]
 obtain⟨iv,zv,hiv,hzv,hv1,hv2,hv3⟩:=QJ;have HI:=jh hiv;have HZ:=jh hzv;have HZ1:=jh hv1;have HZ2:=jh hv2;have HZ3:=jh hv3;have VT:=jh kC;have HEL:=jh hE;have HN7:=jh hn7;have HEQ:=jh (fun(y:Bal.H32) (W:World)=>dK y s W);obtain⟨m,hm⟩:=je (E.length);have HM:=jh hm;obtain⟨a,cp,hlv⟩:=h.l.sl;have aU:=jh hlv;have mI:(m:Int)<=1000:=by omega
 have nI:(n:Int)<=7:=by omega
 obtain⟨w1,e1⟩:=je (w.alloc (.cells T 67));have hb1:=jc e1;have hr1:w1.heap[w.heap.size]?=some (.cells T 67 (0,0)):=by rw[e1];exact jQ
 obtain⟨SB,bC⟩:=je (w.heap.size);rw[<-bC] at hr1;have HB1:=jh hb1;have HR1:=jh hr1;have PZ:=jh (h.later hb1);rw[<-hT] at HEQ⊢;clear hiv hzv hv1 hv2 hv3 h hT hE hTs hb1 hr1 hn7 hm hlv kC
 go_enter func13,ntmps13
 go_upto_region 1 with fail
 rw[<-e1,<-bC];clear e1 bC
 go_wp2_with fail
 go_loopw [9,10] (fun o nd wr=>∃j:Nat,j<=n/\nd=.int .i64 ((j:Int)+1)/\Hid (O1 wr w1.heap.size 71 44 o (YG E k v s j).length ((YG E k v s j).flatMap (qS ep C S)))/\Hid (Below w1.heap.size w1 wr)) (fun _ nd _=>n+1-(intOf nd).toNat)
 case atStart=>exact⟨0,Nat.zero_le _,rfl,jh ⟨rfl,.inl ⟨rfl,rfl⟩⟩,jh U3⟩
 case round=>
  obtain⟨j,hj,rfl,HO,HW⟩:=hrel;obtain⟨a0,c0,rfl⟩:=HO.out.sl;obtain⟨m0,hm0⟩:=je ((YG E k v s j).length);rw[<-hm0] at HO⊢;have pU:=jh hm0;obtain⟨wo,rfl⟩:∃wo:World,wo=wr:=⟨_,rfl⟩;have c18:=(PZ.out.later HW.out).set.nd
  by_cases hjn:j<n
  ·have hjI:(j:Int)+1<=(n:Int):=by omega
   have HJN:=jh hjn;clear hjn hj hm0
   go_wp2_with fail
   clear c18
   go_loopw [9,11] (fun o i wr=>∃p:Nat,p<=m/\i=.int .i64 p/\Hid (O1 wr w1.heap.size 71 44 o (YG E k v s j++(E.take p).filter (hit k v s j)).length ((YG E k v s j++(E.take p).filter (hit k v s j)).flatMap (qS ep C S)))/\Hid (Below w1.heap.size w1 wr)) (fun _ i _=>m-(intOf i).toNat)
   case atStart=>exact⟨0,Nat.zero_le _,rfl,jh (by rw[List.take_zero,List.filter_nil,List.append_nil,<-pU.out];exact HO.out),jh HW.out⟩
   case round=>
    obtain⟨p,hp,rfl,D9,HW2⟩:=hrel;obtain⟨a2,c2,rfl⟩:=D9.out.sl;obtain⟨m2,hm2⟩:=je ((YG E k v s j++(E.take p).filter (hit k v s j)).length);rw[<-hm2] at D9⊢;have HM2:=jh hm2;have HXr:=jh (PZ.out.later HW2.out);have c20:=HXr.out.lc;rw[aU.out,<-HM.out] at c20
    by_cases hlt:p<m
    ·have O6:(p:Int)<(m:Int):=by omega
     obtain⟨x,hx⟩:∃x,E[p]?=some x:=⟨_,Jd (by rw[<-HM.out];exact hlt)⟩;obtain⟨g,o,c9,e9,hr⟩:=HXr.out.at (ql ep C S) hx;rw[aU.out,<-HM.out] at e9;injection e9 with e1 _ e2
     subst e1;subst e2;have HXQ:=jh hx;have nX:=jh c20;have G7:=jh hlt;obtain⟨L,hL⟩:=je (qS ep C S x);have UD:L.length=44:=by rw[hL];exact ql _ _ _ _
     have h1L:∀u∈L,u.oneCell'=true:=by rw[hL];exact LG _ _ _ _
     have LV:=NP hr (ql _ _ _ _);rw[<-hL] at LV;have hszL:(prog.info? 71).map (·.size)=some L.toArray.size:=by rw[qg];simp[UD]
     have LV:=jh LV;have aO:=jh UD;have H1L:=jh h1L;have HSZL:=jh hszL;have VF:=jh hL;have HR2r:=jh ((HW2.out.block _ (J6.1 HR1.out).1).trans HR1.out);have KN:=jh (show m2+1<=100000 by have h9:=TU E k v s j;have h8:=List.length_filter_le (hit k v s j) (E.take p);have h7:(E.take p).length<=E.length:=(by rw[List.length_take];omega);have h5:j*E.length<=7*1000:=Nat.mul_le_mul (by have:=HJN.out;have:=HN7.out;omega) HEL.out;have h4:=HEL.out;rw[hm2,List.length_append];omega);clear hx hlt hL UD h1L hszL hr hm2 hp
     go_upto_region 8 with fail
     clear c20;refine wp_region_lit ?_
     iterate 2
      refine jL (jP rb 0) ?_
     refine jL (jP rb 20) ?_;refine jL (.slice (some ⟨g,o,none⟩) m cp) ?_ (jd (Qh nX.out));refine jL (.int .i64 p) ?_;refine jL (jP g (o+p*44)) ?_ (by simp[go_sem,O6]);refine jL _ ?_ (jd LV.out);refine qq (v:=.pointer (some ⟨wr.heap.size,0,none⟩)) (w':=wr.alloc (.cells JY 71)) rfl (by kernel_rfl) ?_;simp only[Act.put,pa,pb,pc];refine jW rfl _ _ _ rfl JY L.toArray rfl rfl HSZL.out (by simp[aO.out,JY]) (all_oneCell_toArray H1L.out) ?_;simp only[Act.put,pa,pb,pc]
     go_upto_region 9 with fail
     obtain⟨x1,VB,e9,h9,hb⟩:=qJ wr (.cells L.toArray 71);have HV:=jh (show x1.heap[VB]?=some (.cells L.toArray 71 (0,0)) by rw[e9,h9];exact jQ);rw[<-e9,<-h9];have HR3:=jb hb HR2r;have HW3:=jw HW2 hb;have UJ:=jh (O1.later D9.out hb);clear e9 h9 hb;have tJ:=jh (show x1.rangeAt VB 0 (jM x.k ep x.v x.n (hsL x.s) (C x) (S x)) by have h9:=qL HV.out;rw[VF.out] at h9;exact h9)
     by_cases h1:x.k=k
     rotate_left
     ·have HQ:=jh h1;have y0:=Qp tJ.out;have q1:((x.k:Int)==(k:Int))=false:=beq_eq_false_iff_ne.2 (by omega);have q2:¬(x.k:Int)=(k:Int):=by omega
      clear h1
      go_wp2_with fail
      go_roundw
      case rel=>exact⟨p+1,G7.out,by go_num,jh (by have h9:=UJ.out;rw[TD HXQ.out,if_neg (by unfold hit;rw[decide_eq_true_eq];intro e;exact HQ.out e.1),List.append_nil,<-HM2.out];exact h9),HW3⟩
      case measure=>simp[intOf];have:=G7.out;omega
     have HK:=jh h1
     by_cases h2:x.v=v
     rotate_left
     ·have HQ:=jh h2;have y0:=Qp tJ.out;have y1:=Qf tJ.out;rw[h1] at y0;have q1:((x.v:Int)==(v:Int))=false:=beq_eq_false_iff_ne.2 (by omega);have q2:¬(x.v:Int)=(v:Int):=by omega
      clear h1 h2
      go_wp2_with fail
      go_roundw
      case rel=>exact⟨p+1,G7.out,by go_num,jh (by have h9:=UJ.out;rw[TD HXQ.out,if_neg (by unfold hit;rw[decide_eq_true_eq];intro e;exact HQ.out e.2.1),List.append_nil,<-HM2.out];exact h9),HW3⟩
      case measure=>simp[intOf];have:=G7.out;omega
     have HV9:=jh h2;have lk:=Ju (Qp tJ.out);rw[h1] at lk;have lu:=zU (Qf tJ.out);rw[h2] at lu;clear h1 h2;refine wp_region_lit ?_;refine jL (jP VB 0) ?_;refine jL (.int .u8 k) ?_ (jd lk);refine jL (.int .u8 k) ?_;refine jL (.bool true) ?_ (by simp[go_sem]);refine jL (.bool true) ?_;refine jt (v:=.pointer (some ⟨VB,2,none⟩)) (by kernel_rfl) (by kernel_rfl) ?_;refine jt (v:=.int .u32 v) (by kernel_rfl) (jd lu) ?_;refine jt (v:=.int .u32 v) (by kernel_rfl) (by kernel_rfl) ?_;refine jt (v:=.bool true) (by kernel_rfl) (by simp[go_sem]) ?_
     iterate 2
      refine jL (.bool true) ?_
     refine jt (v:=.pointer (some ⟨VB,4,none⟩)) (by kernel_rfl) (by kernel_rfl) ?_;refine jt (by kernel_rfl) (jd (JO tJ.out (qt _))) ?_;refine jt (by kernel_rfl) (jd (qO HR3.out underlying67 rfl VT.out)) ?_;simp only[Act.put,pa,pb,pc];clear lk lu;obtain⟨U,hU⟩:=je ((jo .u8 (hsL x.s)).toArray);have HEx:=jh (fun(W:World)=>HEQ.out x.s W);rw[<-hU] at HEx⊢;clear hU;have y3:=Zq tJ.out
     by_cases hxs:x.s=s
     rotate_left
     ·rw[decide_eq_false hxs] at HEx;have HQ:=jh hxs;clear hxs;refine jt (v:=.bool false) (by kernel_rfl) (qB XD rfl (by kernel_rfl) (by kernel_rfl) (HEx.out _)) ?_;simp only[Act.put,pa,pb,pc]
      go_wp2_with fail
      go_roundw
      case rel=>exact⟨p+1,G7.out,by go_num,jh (by have h9:=UJ.out;rw[TD HXQ.out,if_neg (by unfold hit;rw[decide_eq_true_eq];intro e;exact HQ.out e.2.2.1),List.append_nil,<-HM2.out];exact h9),HW3⟩
      case measure=>simp[intOf];have:=G7.out;omega
     rw[decide_eq_true hxs] at HEx;have HXS:=jh hxs;clear hxs;refine jt (v:=.bool true) (by kernel_rfl) (qB XD rfl (by kernel_rfl) (by kernel_rfl) (HEx.out _)) ?_;simp only[Act.put,pa,pb,pc]
     skip
     by_cases h4:x.n=j+1
     rotate_left
     ·have HQ:=jh h4;have q1:((x.n:Int)==(j:Int)+1)=false:=beq_eq_false_iff_ne.2 (by omega);have q2:¬(x.n:Int)=(j:Int)+1:=by omega
      have E64:IntKind.i64.wrap (x.n:Int)=(x.n:Int):=by have:=HN8.out x (List.mem_of_getElem? HXQ.out);simp[IntKind.wrap,IntKind.bits,IntKind.signed];omega
      clear h4
      go_wp2_with fail
      go_roundw
      case rel=>exact⟨p+1,G7.out,by go_num,jh (by have h9:=UJ.out;rw[TD HXQ.out,if_neg (by unfold hit;rw[decide_eq_true_eq];intro e;exact HQ.out e.2.2.2),List.append_nil,<-HM2.out];exact h9),HW3⟩
      case measure=>simp[intOf];have:=G7.out;omega
     have nD:=jh h4;have q3:(x.n:Int)=(j:Int)+1:=by omega
     have E64:IntKind.i64.wrap ((j:Int)+1)=(j:Int)+1:=by have:=HJN.out;have:=HN7.out;simp[IntKind.wrap,IntKind.bits,IntKind.signed];omega
     rw[q3] at y3;clear h4 q3
     go_upto_region 10 with fail
     clear y3 E64;refine wp_region_lit ?_;refine jL (.slice a2 m2 c2) ?_;refine jL _ ?_ (jd (qO HV.out underlying71 rfl HSZL.out));refine qq (v:=.slice (some ⟨x1.heap.size,0,none⟩) 1 1) (w':=x1.alloc (.cells L.toArray 71)) rfl (JA aO.out rfl rfl) ?_;simp only[Act.put,pa,pb,pc];obtain⟨y1,AB,e9,h9,hb⟩:=qJ x1 (.cells L.toArray 71);have HA:=jh (show y1.heap[AB]?=some (.cells L.toArray 71 (0,0)) by rw[e9,h9];exact jQ);rw[<-e9,<-h9];have BN:=jw HW3 hb;have vJ:=jh (O1.later UJ.out hb);clear e9 h9 hb;refine jX rfl _ _ 30 rfl w1.heap.size 71 iv zv 44 iv.bytes underlying30 HI.out HZ.out HZ1.out rfl HZ3.out (.slice a2 m2 c2) m2 _ rfl vJ.out _ 1 L rfl (FU HA.out aO.out H1L.out) (by have:=KN.out;unfold maxLen;omega) (by have h1:=KN.out;have h2:=HZ2.out;have h3:(m2+1)*iv.bytes<=100000*1000:=Nat.mul_le_mul h1 h2;omega) BN.out.size ?_;intro v3 w3 ho3 hg3 hl3;obtain⟨a3,c3,rfl⟩:=ho3.sl;have HO5:=jh ho3;have HW5:=jh (BN.out.grown hg3 BN.out.size (fun g hg=>(vJ.out.lt g hg).1));simp only[Act.put,pa,pb,pc];clear ho3 hg3 hl3
     go_wp2_with fail
     go_roundw
     case rel=>exact⟨p+1,G7.out,by go_num,jh (by
      have h9:=HO5.out;have e2:=HM2.out;rw[TD HXQ.out,if_pos (by unfold hit;exact decide_eq_true ⟨HK.out,HV9.out,HXS.out,nD.out⟩),<-List.append_assoc,List.length_append,List.flatMap_append,<-e2]
      simpa[<-VF.out] using h9),HW5⟩
     case measure=>simp[intOf];have:=G7.out;omega
    ·obtain rfl:p=m:=by omega
     have e1:YG E k v s j++(E.take p).filter (hit k v s j)=YG E k v s (j+1):=by rw[HM.out,List.take_length,EP]
     rw[e1] at HM2;have HO6:=D9.out;rw[e1] at HO6;have HO7:=jh HO6;clear hlt HO6 e1 hm2
     go_wp2_with fail
     go_roundw
     case rel=>exact⟨j+1,HJN.out,by go_num,jh (by rw[<-HM2.out];exact HO7.out),HW2⟩
     case measure=>simp[intOf];have:=HJN.out;omega
  ·obtain rfl:j=n:=by omega
   have hjI:¬(j:Int)+1<=(j:Int):=by omega
   go_wp2_with fail
   go_ret
   have h9:=HO.out;rw[pU.out] at h9;refine⟨_,rfl,?_,jm HB1.out HW.out⟩;rw[<-DX.out];exact h9.base HB1.out.size
theorem BFull_nil(k v:Nat)(T:Array Value)(hT:T.size=32)(w:World):
  Calls prog 14 #[.pointer none,.int .u8 k,.int .u32 v,.agg T] w fun r w'=>r=.returned (.bool false)/\Below w.heap.size w w':=by
 have kC:(prog.info? 67).map (·.size)=some T.size:=by rw[qR,hT]
 have CT:=jh (fun(W:World)=>IE W)
 go_enter func14,ntmps14
 go_upto_region 1 with fail
 obtain⟨v_1,e1⟩:=je (w.alloc (.cells T 67));have HB:=jh (show Below w.heap.size w v_1 by rw[e1];exact ja);rw[<-e1];clear e1;refine jK [(0,true),(1,false),(2,true),(3,true),(4,true),(5,true),(6,true),(9,true),(10,true),(11,true),(12,true),(13,true),(14,true),(15,true),(16,true),(17,true),(18,true),(19,true),(7,false),(8,true),(20,false),(21,true),(22,true),(23,true)] (fun w8=>True) (by kernel_rfl) (by kernel_rfl) (fun _ _ _ _ _ h=>h) (trivial) (fun hHeld=>?_);refine jq ?_;refine WP.step rfl (fun K hK=>?_)
 go_simp
 refine(CT.out _).mono ?_;rintro _ x2 ⟨rfl,rfl⟩;refine qD hK (trivial) (fun hHeld=>?_);clear hK K;refine jq ?_
 iterate 15
  refine jR ?_
 iterate 2
  refine WP.step rfl (fun K hK=>?_);refine zp (by rfl) ?_;refine qD hK (hHeld) (fun hHeld=>?_);clear hK K;refine jR ?_
 refine jq ?_;refine jq ?_;refine WP.done ?_;clear hHeld
 go_wp2_with fail
 go_ret
 exact⟨rfl,HB.out.drew⟩
theorem BFull_any{bx gp gq gg gh n cap nb no mb fb fo fc ep base k v:Nat}{s:Bal.H32}{fa se:Int}{ks:List (Nat×Nat)}{C S:Bal.Bv->Nat}{f:Value->Option Value}{E:List Bal.Bv}(hE:E.length<=1000)(hn7:n<=7)(hk:k<256)(hv:v<4294967296)(w:World)(h:J7 w bx gp gq gg gh n cap nb no mb fb fo fc ep base fa se ks (qS ep C S) f E):
  Calls prog 14 #[.pointer (some ⟨bx,0,none⟩),.int .u8 k,.int .u32 v,.agg (jo .u8 (hsL s)).toArray] w fun r w'=>r=.returned (.bool (decide (BF n fa<=((Bal.votesOf E n k v s).length:Int))))/\Below w.heap.size w w':=by
 have CV:=jh (fun(W:World) (hb:Below w.heap.size w W)=>TN (s:=s) hE hn7 hk hv W (h.later hb));obtain⟨T,hT⟩:=je ((jo .u8 (hsL s)).toArray);have kC:(prog.info? 67).map (·.size)=some T.size:=by rw[qR,hT];simp[js,qt]
 rw[<-hT] at CV⊢;have VT:=jh kC;have HX:=jh h;have CQ:=jh (fun(W:World)=>mY (n:Int) fa W);obtain⟨qs,hqs⟩:=je (BF n fa);obtain⟨m,hm⟩:=je ((Bal.votesOf E n k v s).length);rw[<-hqs] at CQ;rw[<-hm] at CV;rw[<-hqs,<-hm];clear hT h hqs hm hE hn7 hk hv
 go_enter func14,ntmps14
 go_upto_region 1 with fail
 obtain⟨v_1,e1⟩:=je (w.alloc (.cells T 67));obtain⟨SB,bC⟩:=je (w.heap.size);have HB:=jh (show Below w.heap.size w v_1 by rw[e1];exact ja);have HT:=jh (show v_1.heap[SB]?=some (.cells T 67 (0,0)) by rw[e1,bC];exact jQ);rw[<-e1,<-bC];have HX:=jh (HX.out.later HB.out);clear e1 bC;refine jJ (.take 0 (.step 1 (.take 2 (.take 3 (.take 4 (.take 5 (.take 6 (.take 9 (.take 10 (.take 11 (.take 12 (.take 13 (.take 14 (.take 15 (.take 16 (.take 17 (.take 18 (.take 19 (.step 7 (.take 8 (.step 20 (.take 21 (.take 22 (.take 23 .done)))))))))))))))))))))))) (fun w8=>w8.heap[SB]?=some (.cells T 67 (0,0))/\J7 w8 bx gp gq gg gh n cap nb no mb fb fo fc ep base fa se ks (qS ep C S) f E) (by kernel_rfl) (by kernel_rfl) (fun _ _ _ _ _ h=>h) (⟨((U3.drew:Below v_1.heap.size v_1 v_1.drew).block _ (J6.1 HT.out).1).trans HT.out,HX.out.later (U3.drew)⟩) (fun hHeld=>?_);obtain⟨x1,e1⟩:=je (v_1.drew);rw[<-e1];have hb:Below v_1.heap.size v_1 x1:=by rw[e1];exact U3.drew
 clear e1;have HT:=jb hb HT;have HX:=jh (HX.out.later hb);have HB:=jw HB hb;clear hb;refine jz ?_;refine WT.step rfl (fun K hK=>?_)
 go_simp
 refine(JR _ HX.out.mp).mono ?_;rintro _ x2 ⟨rfl,hb⟩;have HT:=jb hb HT;have HX:=jh (HX.out.later hb);have HB:=jw HB hb;clear hb;refine qD hK (⟨HT.out,HX.out⟩) (fun hHeld=>?_);clear hK K
 iterate 4
  refine jz ?_
 refine jH (.agg T) rfl (fun w8 hSw=>jd (qO hSw.1 underlying67 rfl VT.out)) ?_
 iterate 4
  refine jz ?_
 refine jH (.slice (some ⟨nb,no,none⟩) n cap) rfl (fun w8 hSw=>jd (Qq hSw.2.set.nd)) ?_;refine jH (.int .i64 n) rfl (fun w8 hSw=>by simp[go_sem]) ?_
 iterate 4
  refine jz ?_
 refine jH (.int .i64 fa) rfl (fun w8 hSw=>jd (ZK hSw.2.set.fa)) ?_;refine WT.step rfl (fun K hK=>?_)
 go_simp
 refine(CV.out _ HB.out).mono ?_;rintro _ x3 ⟨u,rfl,hu,hb⟩;obtain⟨au,cu,rfl⟩:=hu.shape9;clear hu;have HT:=jb hb HT;have HX:=jh (HX.out.later hb);have HB:=jw HB hb;clear hb;refine qD hK (⟨HT.out,HX.out⟩) (fun hHeld=>?_);clear hK K;refine jH (.int .i64 m) rfl (fun w8 hSw=>by simp[go_sem]) ?_;refine WT.step rfl (fun K hK=>?_)
 go_simp
 refine(CQ.out _).mono ?_;rintro _ x4 ⟨rfl,rfl⟩;refine qD hK (⟨HT.out,HX.out⟩) (fun hHeld=>?_);clear hK K;refine jH (.bool (decide (qs<=(m:Int)))) rfl (fun w8 hSw=>by simp[go_sem]) ?_;refine jz ?_;refine jz ?_;refine WT.done ?_;clear hHeld
 go_wp2_with fail
 go_ret
 exact⟨rfl,HB.out⟩
theorem LZ{rb gp gq gg gh n cap kb ko ep base k v:Nat}{s:Bal.H32}{fa se:Int}{ks:List (Nat×Nat)}{C S:Bal.Bv->Nat}{E:List Bal.Bv}{lv:Value}(hE:E.length<=1000)(hn:1<=n/\n<=7)(hfa:0<=fa/\fa<=2)(hEn:∀x∈E,x.n<256)(w:World)(h:A7 w rb gp gq gg gh n cap kb ko ep base fa se ks (qS ep C S) E lv):
  Calls prog 15 #[.pointer (some ⟨rb,0,none⟩),.int .u8 k,.int .u32 v,.agg (jo .u8 (hsL s)).toArray] w fun r w'=>r=.returned (.bool (decide (BF n fa<=((Bal.votesOf E n k v s).length:Int))))/\Below w.heap.size w w':=by
 have CV:=jh (fun(W:World) (hb:Below w.heap.size w W)=>rJ (s:=s) (k:=k) (v:=v) hE hn.2 hEn W (h.later hb));obtain⟨T,hT⟩:=je ((jo .u8 (hsL s)).toArray);have kC:(prog.info? 67).map (·.size)=some T.size:=by rw[qR,hT];simp[js,qt]
 rw[<-hT] at CV⊢;have VT:=jh kC;have HX:=jh h;have CQ:=jh (fun(W:World)=>OU n fa hn hfa W);obtain⟨qs,hqs⟩:=je (BF n fa);obtain⟨m,hm⟩:=je ((Bal.votesOf E n k v s).length);rw[<-hqs] at CQ;rw[<-hm] at CV;rw[<-hqs,<-hm];clear hT h hqs hm hE hn hfa hEn
 go_enter func15,ntmps15
 go_upto_region 1 with fail
 obtain⟨v_1,e1⟩:=je (w.alloc (.cells T 67));obtain⟨SB,bC⟩:=je (w.heap.size);have HB:=jh (show Below w.heap.size w v_1 by rw[e1];exact ja);have HT:=jh (show v_1.heap[SB]?=some (.cells T 67 (0,0)) by rw[e1,bC];exact jQ);rw[<-e1,<-bC];have HX:=jh (HX.out.later HB.out);clear e1 bC;refine jJ (.take 0 (.take 1 (.take 2 (.take 3 (.take 6 (.take 7 (.take 8 (.take 9 (.take 10 (.take 11 (.take 12 (.take 13 (.take 14 (.take 15 (.take 16 (.step 4 (.take 5 (.step 17 (.take 18 (.take 19 .done)))))))))))))))))))) (fun w8=>w8.heap[SB]?=some (.cells T 67 (0,0))/\A7 w8 rb gp gq gg gh n cap kb ko ep base fa se ks (qS ep C S) E lv) (by kernel_rfl) (by kernel_rfl) (fun _ _ _ _ _ h=>h) (⟨((U3.drew:Below v_1.heap.size v_1 v_1.drew).block _ (J6.1 HT.out).1).trans HT.out,HX.out.later (U3.drew)⟩) (fun hHeld=>?_);obtain⟨x1,e1⟩:=je (v_1.drew);rw[<-e1];have hb:Below v_1.heap.size v_1 x1:=by rw[e1];exact U3.drew
 clear e1;have HT:=jb hb HT;have HX:=jh (HX.out.later hb);have HB:=jw HB hb;clear hb
 iterate 3
  refine jz ?_
 refine jH (.agg T) rfl (fun w8 hSw=>jd (qO hSw.1 underlying67 rfl VT.out)) ?_
 iterate 4
  refine jz ?_
 refine jH (.slice (some ⟨kb,ko,none⟩) n cap) rfl (fun w8 hSw=>jd (Qq hSw.2.set.nd)) ?_;refine jH (.int .i64 n) rfl (fun w8 hSw=>by simp[go_sem]) ?_
 iterate 4
  refine jz ?_
 refine jH (.int .i64 fa) rfl (fun w8 hSw=>jd (ZK hSw.2.set.fa)) ?_;refine WT.step rfl (fun K hK=>?_)
 go_simp
 refine(CV.out _ HB.out).mono ?_;rintro _ x2 ⟨u,rfl,hu,hb⟩;obtain⟨au,cu,rfl⟩:=hu.shape9;clear hu;have HT:=jb hb HT;have HX:=jh (HX.out.later hb);have HB:=jw HB hb;clear hb;refine qD hK (⟨HT.out,HX.out⟩) (fun hHeld=>?_);clear hK K;refine jH (.int .i64 m) rfl (fun w8 hSw=>by simp[go_sem]) ?_;refine WT.step rfl (fun K hK=>?_)
 go_simp
 refine(CQ.out _).mono ?_;rintro _ x3 ⟨rfl,rfl⟩;refine qD hK (⟨HT.out,HX.out⟩) (fun hHeld=>?_);clear hK K;refine jH (.bool (decide (qs<=(m:Int)))) rfl (fun w8 hSw=>by simp[go_sem]) ?_;refine jz ?_;refine WT.done ?_;clear hHeld
 go_wp2_with fail
 go_ret
 exact⟨rfl,HB.out⟩
theorem sZ(E:List Bal.Bv)(i k v:Nat):Bal.anyOf E (i+1) k v=Bal.anyOf E i k v+if 0<(Bal.at_ E k v (i+1)).length then 1 else 0:=by
 unfold Bal.anyOf;rw[List.range_succ,List.countP_append]
 simp[List.countP_cons]
theorem BAny_any{bx gp gq gg gh n cap nb no mb fb fo fc ep base k v:Nat}{fa se:Int}{ks:List (Nat×Nat)}{vv:Bal.Bv->List Value}{f:Value->Option Value}{E:List Bal.Bv}(hE:E.length<=1000)(hn7:n<=7)(hk:k<256)(hv:v<4294967296)(w:World)(h:J7 w bx gp gq gg gh n cap nb no mb fb fo fc ep base fa se ks vv f E):
  Calls prog 16 #[.pointer (some ⟨bx,0,none⟩),.int .u8 k,.int .u32 v] w fun r w'=>r=.returned (.int .i64 (Bal.anyOf E n k v))/\Below w.heap.size w w':=by
 have HEL:=jh hE;have HKL:=jh hk;have DX:=jh hv;have HN7:=jh hn7;have hcm:=h.mp;have PZ:=jh h;clear h hE hk hv hn7
 go_enter func16,ntmps16
 go_upto_region 3 with(first|(go_at_call 31;refine(JR _ hcm).mono ?_;rintro _ w2 ⟨rfl,hb⟩;have HB2:=jh hb;clear hb))
 have OZ:=jh (PZ.out.later HB2.out);have hnd:=OZ.out.set.nd;have hnc:n<=9223372036854775807:=by have:=HN7.out;omega
 clear hcm
 go_wp2_with fail
 clear hnd
 go_loopw [6,17] (fun o i wr=>∃j:Nat,j<=n/\i=.int .i64 j/\o=.int .i64 (Bal.anyOf E j k v)/\Hid (Below w2.heap.size w2 wr)) (fun _ i _=>n-(intOf i).toNat)
 case atStart=>exact⟨0,Nat.zero_le _,rfl,rfl,jh U3⟩
 case round=>
  obtain⟨j,hj,rfl,rfl,HW⟩:=hrel;have hja:=Bal.anyOf_le E j k v;obtain⟨m,hm⟩:=je (Bal.anyOf E j k v);rw[<-hm] at hja⊢
  by_cases hlt:j<n
  ·have HXr:=jh (OZ.out.later HW.out);obtain⟨kl,hkl⟩:=aH (k:=k) (v:=v) (n:=j+1) HKL.out DX.out (by have:=HN7.out;omega);have hrow:=OZ.out.rows.row k v (j+1);obtain⟨rn,hrn⟩:=je ((Bal.at_ E k v (j+1)).length);have hsu:=sZ E j k v;rw[<-hm,<-hrn] at hsu;rw[<-hrn] at hrow;obtain⟨ra,rc,MV⟩:=hrow.shape9;have O6:(j:Int)<(n:Int):=by omega
   have hj7:(j:Int)<=7:=by have:=HN7.out;omega
   have hm7:(m:Int)<=7:=by omega
   have E8:IntKind.u8.wrap ((j:Int)+1)=((j+1:Nat):Int):=by simp[IntKind.wrap,IntKind.bits,IntKind.signed];omega
   have E64:IntKind.i64.wrap ((j:Int)+1)=(j:Int)+1:=by simp[IntKind.wrap,IntKind.bits,IntKind.signed];omega
   have RZ:=jh MV;have HKL9:=jh hkl;have G7:=jh hlt;have HSU:=jh hsu;clear hrow hrn MV hkl hlt hm hj hsu hja
   go_upto_region 6 with fail
   refine wp_region_lit ?_
   iterate 2
    refine jL (jP bx 0) ?_
   refine jL (jP bx 20) ?_;refine jL (.map (some mb)) ?_ (jd (dM HXr.out.mp));refine jL (.int .u8 k) ?_;refine jL (.int .u32 v) ?_;refine jL (.int .i64 j) ?_;refine jL (.int .i64 ((j:Int)+1)) ?_ (by simp[go_sem,E64]);refine jL (.int .u8 ((j+1:Nat):Int)) ?_ (by simp[go_sem,E8]);refine jL (qE k v (j+1)) ?_;refine ZW _ rfl _ _ 91 rfl 99 30 QR underlying91 (.slice none 0 0) (xQ _) mb f (by kernel_rfl) HXr.out.map _ kl (by kernel_rfl) HKL9.out ?_;rw[RZ.out];simp only[Act.put,pa,pb,pc];clear E8 E64
   by_cases hr0:0<rn
   ·have hrI:(0:Int)<(rn:Int):=by omega
    have HS2:=jh (show Bal.anyOf E (j+1) k v=m+1 by rw[HSU.out,if_pos hr0]);clear hr0
    go_wp2_with fail
    go_roundw
    case rel=>exact⟨j+1,G7.out,by go_num,by rw[HS2.out];go_num,HW⟩
    case measure=>simp[intOf];have:=G7.out;omega
   ·have hrI:¬(0:Int)<(rn:Int):=by omega
    have HS2:=jh (show Bal.anyOf E (j+1) k v=m by rw[HSU.out,if_neg hr0,Nat.add_zero]);clear hr0
    go_wp2_with fail
    go_roundw
    case rel=>exact⟨j+1,G7.out,by go_num,by rw[HS2.out],HW⟩
    case measure=>simp[intOf];have:=G7.out;omega
  ·obtain rfl:j=n:=by omega
   have YN:=jh hm;clear hlt hm
   go_wp2_with fail
   go_ret
   rw[<-YN.out];exact⟨rfl,jm HB2.out HW.out⟩
end Go.Proofs.YtpkalgofejjggaaGreatDoor
