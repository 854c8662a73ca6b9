/- Layer 22's own lives -/
import Derived.Test.YtpkalgofejjggaaGreatDoorBPBG37
import Derived.Test.YtpkalgofejjggaaGreatDoorBPBG44
set_option linter.unusedSimpArgs false
set_option linter.unusedVariables false
set_option maxHeartbeats 2000000
set_option maxRecDepth 20000
namespace Go.Proofs.YtpkalgofejjggaaGreatDoor
open Go.ChangeShapes Go.WideShapes Go.ChangeAt Go.RowKit Go.Proofs.Tryz
theorem MX:zC 0 0 0 0 0 0 (.slice none 0 0)=.agg J5:=by
 unfold zC J5
 rfl
theorem BNew_zero(w:World):Calls prog 7 #[.agg J5,.int .u64 1] w fun r w'=>r=.returned (.tuple #[.pointer none,.int .i64 1])/\Below w.heap.size w w':=by
 have CD:=jh (fun(W:World)=>by have h9:=XH (gp:=0) (gq:=0) (gg:=0) (gh:=0) (n:=0) (cap:=0) (fa:=0) (se:=0) (ao:=none) (ks:=[]) (by simp) (by decide) (by decide) (by decide) (by decide) rfl (by decide) (by decide) (by decide) W (fun h0=>absurd h0 (by decide));rw[show qi 0 0 0 0 0 0 0 []=false by unfold qi;rw[if_neg (by decide),if_neg (by decide),if_pos (by decide)],MX] at h9;exact h9);obtain⟨Z,hZ⟩:=je (J5);have hszZ:(prog.info? 33).map (·.size)=some Z.size:=by rw[RD,hZ];rfl
 rw[<-hZ] at CD⊢;have I7:=jh hszZ;clear hZ
 go_enter func7,ntmps7
 go_upto_region 1 with fail
 obtain⟨w1,e1⟩:=je (w.alloc (.cells Z 33));obtain⟨SB,bC⟩:=je (w.heap.size);have HB:=jh (show Below w.heap.size w w1 by rw[e1];exact ja);have HS:=jh (show w1.heap[SB]?=some (.cells Z 33 (0,0)) by rw[e1,bC];exact jQ);rw[<-e1,<-bC];clear e1 bC;refine wp_region_lit ?_;refine jL _ ?_ (jd (qO HS.out underlying33 rfl I7.out))
 go_wp2_with fail
 refine(CD.out _).mono ?_;rintro _ w2 ⟨rfl,hb⟩;have HB:=jw HB hb;clear hb
 go_wp2_with fail
 go_ret2
 exact⟨rfl,HB.out⟩
theorem LD(w:World):Calls prog 6 #[] w fun r w'=>r=.returned (.bool true)/\Below w.heap.size w w':=by
 have CN:=jh (fun(W:World)=>BNew_zero W);obtain⟨Z,hZ⟩:=je (J5);obtain⟨V,hV⟩:=je (JY);obtain⟨H,hH⟩:=je (zero32);have CP:=jh (fun(W:World)=>BPut_nil V (by rw[hV];rfl) W);have CF:=jh (fun(W:World)=>BFull_nil 1 0 H (by rw[hH];rfl) W);have CR:=jh (fun(W:World)=>BFar_nil W);have CV:=jh (fun(W:World)=>BVotes_nil 1 0 H (by rw[hH];rfl) W)
 have BZ:∀(o:Oper) (ev:Operand->Value) (W:World),o.op=.build 33 #[]->(execOp ev o).run prog W=.ok (.value (.agg Z)) W:=fun o ev W ho=>by
  unfold execOp;simp only[ho];rw[hZ]
  kernel_rfl
 have BV:∀(o:Oper) (ev:Operand->Value) (W:World),o.op=.build 71 #[]->(execOp ev o).run prog W=.ok (.value (.agg V)) W:=fun o ev W ho=>by
  unfold execOp;simp only[ho];rw[hV]
  kernel_rfl
 have BH:∀(o:Oper) (ev:Operand->Value) (W:World),o.op=.build 67 #[]->(execOp ev o).run prog W=.ok (.value (.agg H)) W:=fun o ev W ho=>by
  unfold execOp;simp only[ho];rw[hH]
  kernel_rfl
 have HBZ:=jh BZ;have HBV:=jh BV;have HBH:=jh BH;clear BZ BV BH;rw[<-hZ] at CN;clear hZ hV hH
 go_enter func6,ntmps6
 go_upto_region 1 with fail
 refine wp_region_lit ?_;refine zu (v:=.agg Z) rfl (HBZ.out _ _ _ rfl) ?_;simp only[Act.put,pa,pb,pc]
 go_upto_region 3 with(first|(go_at_call 7;refine(CN.out _).mono ?_;rintro _ w1 ⟨rfl,hb⟩;have HB:=jh hb;clear hb))
 refine wp_region_lit ?_;refine jL (.pointer none) ?_;refine zu (v:=.agg V) rfl (HBV.out _ _ _ rfl) ?_;simp only[Act.put,pa,pb,pc]
 go_upto_region 4 with(first|(go_at_call 9;refine(CP.out _).mono ?_;rintro _ w2 ⟨rfl,hb⟩;have HB:=jw HB hb;clear hb))
 go_wp2_with (first
  |(refine jt (v:=.agg H) (by kernel_rfl) (HBH.out _ _ _ rfl) ?_;simp only[Act.put,pa,pb,pc])
  |(go_at_call 14;refine(CF.out _).mono ?_;rintro _ w3 ⟨rfl,hb⟩;have HB:=jw HB hb;clear hb)
  |(go_at_call 18;refine(CR.out _).mono ?_;rintro _ _ ⟨rfl,rfl⟩)
  |(go_at_call 11;refine(CV.out _).mono ?_;rintro _ w4 ⟨rfl,hb⟩;have HB:=jw HB hb;clear hb))
 go_ret
 exact⟨rfl,HB.out⟩
end Go.Proofs.YtpkalgofejjggaaGreatDoor
