/- Layer 22 (ballots)'s reference -/
import Derived.Test.YtpkalgofejjggaaGreatDoorBPBG35
import Derived.Test.YtpkalgofejjggaaGreatDoorBPBG45
set_option linter.unusedSimpArgs false
set_option linter.unusedVariables false
set_option maxHeartbeats 4000000
set_option maxRecDepth 20000
namespace Go.Proofs.YtpkalgofejjggaaGreatDoor
open Go.ChangeShapes Go.WideShapes Go.ChangeAt Go.RowKit Go.Proofs.Tryz
theorem eX{gp gq gg gh n cap k e v nd c s:Nat}{fa se:Int}{KB ko:Nat}{ks:List (Nat×Nat)}{h:List Nat}(st:StOk gp gq gg gh n fa se ks)(hl:h.length=32)(hby:qk h)(hk8:k<256)(he:e<18446744073709551616)(hv:v<4294967296)(hnd:nd<256)(hc:c<jk)(hs:s<jk)(w:World)(hk:Y4 w KB ko ks):
  Calls prog 21 #[zC gp gq gg gh fa se (.slice (some ⟨KB,ko,none⟩) n cap),qU k e v nd h c s] w fun r w'=>r=.returned (.bool (Qd gp gq gg n ks k e v nd h c s))/\Below w.heap.size w w':=by
 obtain⟨R,hR⟩:=je (Qd gp gq gg n ks k e v nd h c s);rw[<-hR];have hn7:=st.hn7;have hn:=st.hn;have hall:=EW st.ok;have HRk:=jh (fun(h1:k≠1/\k≠2)=>hR.trans (fE h1));have HRv:=jh (fun(h1:1073741824<v)=>hR.trans (YD h1));have HRl:=jh (fun(h1:nd<1)=>hR.trans (vG h1));have HRh:=jh (fun(h1:n<nd)=>hR.trans (iE h1));have HRy:=jh (fun(h1:k=1∨k=2) (h2:v<=1073741824) (h3:1<=nd) (h4:nd<=n)=>hR.trans (kN h1 h2 h3 h4));have CV:=jh (fun(W:World)=>RVote_any (c:=c) (s:=s) W hl hby hk8 he hv hnd);have CK:=jh (fun(i key k9:Nat) (hki:ks[i]?=some (key,k9)) (W:World)=>by have h7:=st.keys _ (List.mem_of_getElem? hki);have h9:=FZ (gh:=gh) (h:=Jo k e v nd h) hall st.hm st.hgg st.hgh st.q1 st.hq h7.1 h7.2 hc hs (by unfold Jo;exact jY _) (by unfold Jo;exact JS _) W;unfold iY qj ji words at h9;exact h9);have CD:=jh (fun(W:World) (hk9:Y4 W KB ko ks)=>by have h9:=MH (cap:=cap) (ao:=some ⟨KB,ko,none⟩) st.hx st.hq st.hm st.hgg st.hgh st.hn st.hfa st.hse (by omega) W (fun _=>⟨KB,ko,rfl,hk9⟩);rw[st.ok] at h9;exact h9);obtain⟨T,hT⟩:=je ((jo .u8 (Jo k e v nd h)).toArray);rw[<-hT] at CV CK;have HN:=jh hn;have nI7:n<=7:=hn7;clear hT hR hall hn hn7 st hc hs he hby hk8;obtain⟨SV,OC⟩:∃SV,zC gp gq gg gh fa se (.slice (some ⟨KB,ko,none⟩) n cap)=.agg SV:=⟨_,rfl⟩;have NY:(prog.info? 33).map (·.size)=some SV.size:=by rw[RD,KE OC]
 obtain⟨VV,Y8⟩:=je ((jM k e v nd h c s).toArray);have N9:(prog.info? 71).map (·.size)=some VV.size:=by rw[qg,Y8];simp[qz hl]
 have FS:=jh (show∀W:World,TA (W.alloc (.cells SV 33)) W.heap.size gp gq gg gh fa se (.slice (some ⟨KB,ko,none⟩) n cap) by intro W;have e9:=OC;unfold zC at e9;injection e9 with e9;rw[<-e9];exact TA.new _ _ _ _ _ _ _ _ _);have HSS:=jh NY;have I7:=jh N9;have HL:=jh hl;have iF:=jh hk;rw[OC] at CD⊢;unfold qU at CV⊢;rw[<-Y8] at CV⊢;have HVV:=jh Y8;have lX:=jh OC;clear Y8 OC hk hl
 go_enter func21,ntmps21
 go_upto_region 1 with fail
 obtain⟨V8,e0⟩:=je (w.alloc (.cells SV 33));obtain⟨v_1,e1⟩:=je (V8.alloc (.cells VV 71));have s0:V8.heap.size=w.heap.size+1:=by rw[e0];simp
 have b0:=jc e0;have b1:=jc e1;have f0:TA V8 w.heap.size gp gq gg gh fa se (.slice (some ⟨KB,ko,none⟩) n cap):=by rw[e0];exact FS.out w
 have f1:v_1.rangeAt (w.heap.size+1) 0 (jM k e v nd h c s):=by rw[<-s0,e1,HVV.out];exact JT _ _ _
 rw[<-e0,<-e1];obtain⟨SB,bC⟩:=je (w.heap.size);rw[<-bC] at f0 f1⊢;obtain⟨VB,lD⟩:=je (SB+1);rw[<-lD] at f1⊢;have HS:=jh (f0.later b1);have HV:=jh f1;have HB:=jh (jm b0 b1);have iF:=jh (iF.out.later HB.out);clear e0 e1 s0 b0 b1 f0 f1 bC lD FS HSS I7;refine wp_region_lit ?_;refine zu (v:=.agg SV) rfl (by rw[<-lX.out];exact jd (Qr HS.out)) ?_;simp only[Act.put,pa,pb,pc]
 go_wp2_with fail
 refine(CD.out _ iF.out).mono ?_;rintro _ U8 ⟨rfl,hb⟩;have HV:=jh (ju HV.out hb);have HS:=jh (HS.out.later hb);have HB:=jw HB hb;have iF:=jh (iF.out.later hb);clear hb;clear CD;have y0:=Qp HV.out;have y2:=Qf HV.out;have y3:=Zq HV.out;have y4:=HS.out.nd;have QW:IntKind.i64.wrap (nd:Int)=(nd:Int):=by simp[IntKind.wrap,IntKind.bits,IntKind.signed];omega
 by_cases hvv:1073741824<v
 ·have hvI:(1073741824:Int)<(v:Int):=by omega
  have HR:=jh (show R=false from HRv.out hvv)
  skip
  go_wp2_with fail
  go_ret
  exact⟨by rw[HR.out];rfl,HB.out⟩
 have hvI:¬(1073741824:Int)<(v:Int):=by omega
 have hvD:decide ((1073741824:Int)<(v:Int))=false:=decide_eq_false hvI
 by_cases hkd:k≠1/\k≠2
 ·have k1I:((k:Int)==1)=false:=beq_eq_false_iff_ne.2 (by omega);have k2I:((k:Int)==2)=false:=beq_eq_false_iff_ne.2 (by omega);have HR:=jh (show R=false from HRk.out hkd)
  skip
  go_wp2_with fail
  go_ret
  exact⟨by rw[HR.out];rfl,HB.out⟩
 ·replace hkd:k=1∨k=2:=by omega
  have HKD:=jh hkd;have hkI:(k:Int)=1∨¬(k:Int)=1/\(k:Int)=2:=by omega
  clear hkd
  rcases hkI with hkI|⟨hkI,hkJ⟩
  all_goals
   by_cases hn1:nd<1
   ·have q1D:decide ((nd:Int)<1)=true:=decide_eq_true (by omega);have HR:=jh (show R=false from HRl.out hn1)
    skip
    go_wp2_with fail
    go_ret
    exact⟨by rw[HR.out];rfl,HB.out⟩
   by_cases hn2:n<nd
   ·have q1D:decide ((nd:Int)<1)=false:=decide_eq_false (by omega);have q2D:decide ((n:Int)<(nd:Int))=true:=decide_eq_true (by omega);have HR:=jh (show R=false from HRh.out hn2)
    skip
    go_wp2_with fail
    go_ret
    exact⟨by rw[HR.out];rfl,HB.out⟩
   have q1D:decide ((nd:Int)<1)=false:=decide_eq_false (by omega);have q2D:decide ((n:Int)<(nd:Int))=false:=decide_eq_false (by omega)
   go_upto_region 3 with fail
   clear y0 y2 y3 y4 QW q1D q2D hvD hvI hkI;obtain⟨i,hni⟩:∃i,nd=i+1:=⟨nd-1,by omega⟩;have hin9:i<n:=by omega
   obtain⟨⟨key,k9⟩,hki⟩:∃p,ks[i]?=some p:=⟨_,Jd (by rw[<-HN.out];exact hin9)⟩;have CKc:=jh (CK.out i key k9 hki);have hgd:(ks.getD (nd-1) (0,0)).1=key:=by rw[hni,Nat.add_sub_cancel,List.getD_eq_getElem?_getD,hki];rfl
   obtain⟨so,hso⟩:=je (uD gp gq gg key c s (Jo k e v nd h));have HR:=jh (show R=so by rw[HRy.out HKD.out (by omega) (by omega) (by omega),hgd,hso]);rw[<-hso] at CKc;have E9:=jh (show IntKind.u8.wrap ((nd:Int)-1)=(i:Int) by rw[hni,show(((i+1:Nat):Int)-1)=(i:Int) by omega];simp[IntKind.wrap,IntKind.bits,IntKind.signed];omega);have QI:=jh (show(i:Int)<(n:Int) by omega);have HKI:=jh hki;clear hni hin9 hki hgd hso hv hnd hvv hn1 hn2 CK;refine jJ (.take 0 (.take 1 (.take 2 (.take 3 (.take 4 (.take 5 (.take 6 (.take 7 (.take 8 (.take 9 (.take 10 (.take 12 (.take 13 (.step 11 (.step 14 (.take 15 .done)))))))))))))))) (fun w8=>TA w8 SB gp gq gg gh fa se (.slice (some ⟨KB,ko,none⟩) n cap)/\w8.rangeAt VB 0 (jM k e v nd h c s)/\Y4 w8 KB ko ks) (by kernel_rfl) (by kernel_rfl) (fun _ _ _ _ _ h=>h) (⟨HS.out.later (U3.drew),ju HV.out (U3.drew),iF.out.later (U3.drew)⟩) (fun hHeld=>?_);obtain⟨x1,e1⟩:=je (U8.drew);rw[<-e1];have hb:Below U8.heap.size U8 x1:=by rw[e1];exact U3.drew
   have HV:=jh (ju HV.out hb);have HS:=jh (HS.out.later hb);have HB:=jw HB hb;have iF:=jh (iF.out.later hb);clear hb e1;refine jz ?_;refine jH (.agg (jG gp gq gg gh)) rfl (fun w8 hSw=>jd (loadGr hSw.1)) ?_;refine jz ?_;refine jH (.slice (some ⟨KB,ko,none⟩) n cap) rfl (fun w8 hSw=>jd (Qq hSw.1.nd)) ?_;refine jz ?_;refine jH (.int .u8 nd) rfl (fun w8 hSw=>jd (lG (Zq hSw.2.1))) ?_;refine jH (.int .u8 i) rfl (fun w8 hSw=>by have e9:=E9.out;simp[go_sem,e9]) ?_;refine jH (jP KB (ko+i*8)) rfl (fun w8 hSw=>by have e9:=QI.out;simp[go_sem,e9]) ?_;refine jH (jP KB (ko+i*8)) rfl (fun w8 hSw=>by simp[go_sem]) ?_;refine WT.take rfl (Or.inl ⟨by rfl,fun w8 hSw=>jd (jZ (fun j hj=>(hSw.2.2 i _ HKI.out).1 j hj))⟩) ?_
   try simp only[Act.put,pa,pb,pc]
   refine jH (.agg VV) rfl (fun w8 hSw=>by rw[HVV.out];exact jd (DR hSw.2.1 HL.out)) ?_;refine jz ?_;refine jH (.agg (jE c s)) rfl (fun w8 hSw=>jd (loadSg (vo_sig hSw.2.1 HL.out))) ?_;refine WT.step rfl (fun K hK=>?_)
   go_simp
   refine(CV.out _).mono ?_;rintro _ x2 ⟨rfl,hb⟩;have HV:=jh (ju HV.out hb);have HS:=jh (HS.out.later hb);have HB:=jw HB hb;have iF:=jh (iF.out.later hb);clear hb;refine qD hK (⟨HS.out,HV.out,iF.out⟩) (fun hHeld=>?_);clear hK K;refine WT.step rfl (fun K hK=>?_)
   go_simp
   refine(CKc.out _).mono ?_;rintro _ x3 ⟨rfl,hb⟩;have HV:=jh (ju HV.out hb);have HS:=jh (HS.out.later hb);have HB:=jw HB hb;have iF:=jh (iF.out.later hb);clear hb;refine qD hK (⟨HS.out,HV.out,iF.out⟩) (fun hHeld=>?_);clear hK K;refine jz ?_;refine WT.done ?_;clear hHeld
   go_wp2_with fail
   go_ret
   exact⟨by rw[HR.out];rfl,HB.out⟩
end Go.Proofs.YtpkalgofejjggaaGreatDoor
