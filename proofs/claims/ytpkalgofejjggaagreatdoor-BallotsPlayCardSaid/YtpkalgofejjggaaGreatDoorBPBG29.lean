/- The law's Setting, behind its early ends -/
import Derived.Test.YtpkalgofejjggaaGreatDoorBPBG28
set_option linter.unusedSimpArgs false
set_option linter.unusedVariables false
set_option maxHeartbeats 4000000
set_option maxRecDepth 20000
namespace Go.Proofs.YtpkalgofejjggaaGreatDoor
open Go.ChangeShapes Go.WideShapes Go.ChangeAt Go.RowKit Go.Proofs.Tryz
structure mQ(w:World)(gp gq gg lg n:Nat)(fa se:Int)(sk:List (Nat×Nat))(a:Option Addr):Prop where
 may:Jt gp gg
 prime:oH gp gq
 log:lg≠0
 le:n<=7
 keys:∀k∈sk,k.1≠0/\k.2≠0/\k.1<gq/\k.2<gq
 nodes:0<n->∃b o,a=some ⟨b,o,none⟩/\Y4 w b o (sk.map fun k=>(gg^k.1%gp,(gg^lg%gp)^k.2%gp))
 ok:qi gp gq gg (gg^lg%gp) fa se n (sk.map fun k=>(gg^k.1%gp,(gg^lg%gp)^k.2%gp))=true
def J5:Array Value:=#[.int .u64 0,.int .u64 0,.int .u64 0,.int .u64 0,.int .u64 0,.int .u64 0,.int .u64 0,.int .u64 0,.int .u64 0,.int .u64 0,.int .u64 0,.int .u64 0,.int .u64 0,.int .u64 0,.int .u64 0,.int .u64 0,.int .i64 0,.int .i64 0,.slice none 0 0]
theorem zi:(prog.info? 33).map (·.size)=some 19:=by kernel_rfl
theorem qv{P:Program}{fn:Func}{p t:Tmp}{ty:TypeId}(h:fn.results=#[.cell p ty,.tmp t])(tmps:Array Value)(w:World)(g:Nat)(tt:TypeId)(cs:Array Value)(fr:Nat×Nat)(d:TypeDesc)
  (hp:tmps.getD p undef=.pointer (some ⟨g,0,none⟩)) (hg:w.heap[g]?=some (.cells cs tt fr)) (hu:P.underlying ty=some d) (hd:(match d with|.struct _|.array _ _=>true|_=>false)=true) (hi:(P.info? ty).map (·.size)=some cs.size) (v:Value) (hv:tmps.getD t undef=v):
  (results fn tmps).run P w=.ok (.tuple #[.agg cs,v]) w:=by
 have hp':tmps[p]?.getD undef=.pointer (some ⟨g,0,none⟩):=by simpa using hp
 have hv':tmps[t]?.getD undef=v:=by simpa using hv
 simp[results,h,hp',hv',asAddr,run_loadVar_row w g tt ty cs fr d hg hu hd hi]
theorem grp_setH{w:World}{b gp gq gg gh:Nat}(h:J3 w b gp gq gg gh)(x:Nat):J3 ((((w.setCell ⟨b,12,none⟩ (.int .u64 (jg jf x 0))).setCell ⟨b,13,none⟩ (.int .u64 (jg jf x 1))).setCell ⟨b,14,none⟩ (.int .u64 (jg jf x 2))).setCell ⟨b,15,none⟩ (.int .u64 (jg jf x 3))) b gp gq gg x:=by
 have oth:∀{o y:Nat},o+4<=12->Z4 w b o y->Z4 ((((w.setCell ⟨b,12,none⟩ (.int .u64 (jg jf x 0))).setCell ⟨b,13,none⟩ (.int .u64 (jg jf x 1))).setCell ⟨b,14,none⟩ (.int .u64 (jg jf x 2))).setCell ⟨b,15,none⟩ (.int .u64 (jg jf x 3))) b o y:=fun {o y} ho hy j hj=>by
  rw[World.cell?_setCell_other _ _ _ _ (by intro h;injection h;omega),World.cell?_setCell_other _ _ _ _ (by intro h;injection h;omega),World.cell?_setCell_other _ _ _ _ (by intro h;injection h;omega),World.cell?_setCell_other _ _ _ _ (by intro h;injection h;omega)];exact hy j hj
 obtain⟨h0,h1,h2,h3⟩:=h;refine⟨oth (by decide) h0,oth (by decide) h1,oth (by decide) h2,fun j hj=>?_⟩
 rcases(show j=0∨j=1∨j=2∨j=3 by omega) with rfl|rfl|rfl|rfl
 ·rw[World.cell?_setCell_other _ _ _ _ (by intro h;injection h;omega),World.cell?_setCell_other _ _ _ _ (by intro h;injection h;omega),World.cell?_setCell_other _ _ _ _ (by intro h;injection h;omega)];refine World.cell?_setCell_same _ _ _ (u:=.int .u64 (jg jf gh 0)) ?_;exact h3 0 (by decide)
 ·rw[World.cell?_setCell_other _ _ _ _ (by intro h;injection h;omega),World.cell?_setCell_other _ _ _ _ (by intro h;injection h;omega)];refine World.cell?_setCell_same _ _ _ (u:=.int .u64 (jg jf gh 1)) ?_;rw[World.cell?_setCell_other _ _ _ _ (by intro h;injection h;omega)];exact h3 1 (by decide)
 ·rw[World.cell?_setCell_other _ _ _ _ (by intro h;injection h;omega)];refine World.cell?_setCell_same _ _ _ (u:=.int .u64 (jg jf gh 2)) ?_;rw[World.cell?_setCell_other _ _ _ _ (by intro h;injection h;omega),World.cell?_setCell_other _ _ _ _ (by intro h;injection h;omega)];exact h3 2 (by decide)
 ·refine World.cell?_setCell_same _ _ _ (u:=.int .u64 (jg jf gh 3)) ?_;rw[World.cell?_setCell_other _ _ _ _ (by intro h;injection h;omega),World.cell?_setCell_other _ _ _ _ (by intro h;injection h;omega),World.cell?_setCell_other _ _ _ _ (by intro h;injection h;omega)];exact h3 3 (by decide)
theorem zW:J5.all (·.oneCell')=true:=by unfold J5;simp[Value.oneCell']
theorem JX:Value.agg J5=zC 0 0 0 0 0 0 (.slice none 0 0):=by
 unfold zC J5;simp only[jN]
 rfl
theorem ER{gp gq gg gh lg n cap:Nat}{fa se:Int}{ao:Option Addr}{sk:List (Nat×Nat)}(hm:¬Jt gp gg)(IB:gp<jk)(hgq:gq<jk)(hgg:gg<jk)(aK:lg<jk)(hfa: -9223372036854775808<=fa/\fa<=9223372036854775807)(hse: -9223372036854775808<=se/\se<=9223372036854775807)(hsk:∀k∈sk,k.1<jk/\k.2<jk)(hn:n=sk.length)(hcap:n<=cap)(hcm:cap<=maxLen)(w:World)(hk:0<n->∃b o,ao=some ⟨b,o,none⟩/\Y4 w b o sk):
  Calls prog 4 #[Qo gp gq gg gh lg fa se (.slice ao n cap)] w fun e w'=>∃(p q g h:Nat) (f s:Int) (a:Option Addr) (n9 c9:Nat) (ok:Bool),e=.returned (.tuple #[zC p q g h f s (.slice a n9 c9),.bool ok])/\(ok=true->p=gp/\q=gq/\g=gg/\h=gg^lg%gp/\f=fa/\s=se/\n9=n/\mQ w' gp gq gg lg n fa se sk a)/\Below w.heap.size w w':=by
 obtain⟨h,hh⟩:=je (0);have hh2:ji 0=ji h:=by rw[hh]
 have CE:=jh (fun W=>by have h9:=yS (gq:=gq) (gg:=gg) (gh:=gh) hm hgg aK IB W;rw[hh2] at h9;unfold ji words at h9;exact h9);have hmm:=hcm;unfold maxLen at hmm;clear hh hh2 hm IB hgq hgg aK hfa hse hsk hn hk;unfold Qo
 go_enter func4,ntmps4
 go_upto_region 1 with fail
 obtain⟨V8,e0⟩:=je (w.alloc (.cells #[.int .u64 (jg jf gp 0),.int .u64 (jg jf gp 1),.int .u64 (jg jf gp 2),.int .u64 (jg jf gp 3),.int .u64 (jg jf gq 0),.int .u64 (jg jf gq 1),.int .u64 (jg jf gq 2),.int .u64 (jg jf gq 3),.int .u64 (jg jf gg 0),.int .u64 (jg jf gg 1),.int .u64 (jg jf gg 2),.int .u64 (jg jf gg 3),.int .u64 (jg jf gh 0),.int .u64 (jg jf gh 1),.int .u64 (jg jf gh 2),.int .u64 (jg jf gh 3),.int .u64 (jg jf lg 0),.int .u64 (jg jf lg 1),.int .u64 (jg jf lg 2),.int .u64 (jg jf lg 3),.int .i64 fa,.int .i64 se,.slice ao n cap] 29));obtain⟨v_1,e1⟩:=je (V8.alloc (.cells #[.int .u64 0,.int .u64 0,.int .u64 0,.int .u64 0,.int .u64 0,.int .u64 0,.int .u64 0,.int .u64 0,.int .u64 0,.int .u64 0,.int .u64 0,.int .u64 0,.int .u64 0,.int .u64 0,.int .u64 0,.int .u64 0,.int .i64 0,.int .i64 0,.slice none 0 0] 33));have s0:V8.heap.size=w.heap.size+1:=by rw[e0];simp
 have s1:v_1.heap.size=w.heap.size+1+1:=by rw[e1];simp[s0]
 have b0:=jc e0;have b1:=jc e1;have f0:J3 V8 w.heap.size gp gq gg gh:=by rw[e0];exact kE
 have f1:Z4 V8 w.heap.size 16 lg:=fun j hj=>by rw[e0,cell_of_row _ _ _ _ _ _ jQ];rcases(show j=0∨j=1∨j=2∨j=3 by omega) with rfl|rfl|rfl|rfl<;>rfl
 have f20:V8.cell? ⟨w.heap.size,20,none⟩=some (.int .i64 fa):=by rw[e0,cell_of_row _ _ _ _ _ _ jQ];rfl
 have f21:V8.cell? ⟨w.heap.size,21,none⟩=some (.int .i64 se):=by rw[e0,cell_of_row _ _ _ _ _ _ jQ];rfl
 have f22:V8.cell? ⟨w.heap.size,22,none⟩=some (.slice ao n cap):=by rw[e0,cell_of_row _ _ _ _ _ _ jQ];rfl
 have f9:v_1.heap[w.heap.size+1]?=some (.cells J5 33 (0,0)):=by rw[<-s0,e1];exact jQ
 rw[<-e0,<-e1];obtain⟨CB,dS⟩:=je (w.heap.size);rw[<-dS] at f0 f1 f20 f21 f22 f9 s1⊢;obtain⟨UB,hUB⟩:=je (CB+1);rw[<-hUB] at f9 s1⊢;have HC:=jh (f0.later b1);have HL:=jh (Z4.later b1 f1);have rD:=jh (jj f20 b1);have oD:=jh (jj f21 b1);have Z8:=jh (jj f22 b1);have HU:=jh f9;have HB:=jh (jm b0 b1);have HUW:=jh (show w.heap.size<=UB by omega);clear e0 e1 s0 s1 b0 b1 f0 f1 f20 f21 f22 f9 dS hUB;refine wp_region_lit ?_;refine jL (jP CB 0) ?_;refine jL _ ?_ (jd (qP HC.out))
 go_upto_region 2 with fail
 obtain⟨U8,GB,e9,h9,hb⟩:=qJ v_1 (.cells (jG gp gq gg gh) 26);have HG:=jh (show J3 U8 GB gp gq gg gh by rw[e9,h9];exact J3.new _ _ _ _ _ _);have wJ:=jh (show Y0 U8 GB 16 by rw[e9,h9];exact Y0.new _ _ _ _);have UC:=jh (show GB<U8.heap.size by rw[e9,h9];simp);have WGB:=jh (show v_1.heap.size=GB from h9.symm);have nGB:=jh (show CB≠GB/\UB≠GB by have a1:=HC.out.lt;have a2:=(J6.1 HU.out).1;omega);have bGB:=jh (show w.heap.size<=GB by rw[h9];exact HB.out.size);rw[<-e9,<-h9];clear e9 h9;have HL:=jh (Z4.later hb HL.out);have HC:=jh (HC.out.later hb);have rD:=jh (jj rD.out hb);have oD:=jh (jj oD.out hb);have Z8:=jh (jj Z8.out hb);have HU:=jb hb HU;have HB:=jw HB hb;clear hb;refine wp_region_lit ?_;refine jL _ ?_ (jd (qP HG.out));refine jL (jP GB 8) ?_;refine jL _ ?_ (jd (jZ HG.out.2.2.1));refine jL (jP CB 16) ?_;refine jL _ ?_ (jd (jZ HL.out))
 go_wp2_with fail
 refine(CE.out _).mono ?_;rintro _ fC ⟨rfl,hb⟩;have HL:=jh (Z4.later hb HL.out);have HC:=jh (HC.out.later hb);have rD:=jh (jj rD.out hb);have oD:=jh (jj oD.out hb);have Z8:=jh (jj Z8.out hb);have HU:=jb hb HU;have HB:=jw HB hb;have HG:=jh (HG.out.later hb);have wJ:=jh (wJ.out.later hb UC.out);have UC:=jl UC hb.size;clear hb
 go_upto_region 3 with fail
 obtain⟨iO,IC,e9,h9,hb⟩:=qJ fC (.cells (jD h) 24);have HH:=jh (show U0 iO IC h by rw[e9,h9];exact U0.new _ _ _ _ rfl);have aP:=jh (show IC<iO.heap.size by rw[e9,h9];simp);have WHB9:=jh (show fC.heap.size=IC from h9.symm);have nHB:=jh (show IC≠GB by have a1:=UC.out;omega);rw[<-e9,<-h9];clear e9 h9;have HL:=jh (Z4.later hb HL.out);have HC:=jh (HC.out.later hb);have rD:=jh (jj rD.out hb);have oD:=jh (jj oD.out hb);have Z8:=jh (jj Z8.out hb);have HU:=jb hb HU;have HB:=jw HB hb;have HG:=jh (HG.out.later hb);have wJ:=jh (wJ.out.later hb UC.out);have UC:=jl UC hb.size;clear hb
 go_upto_region 4 with fail
 refine wp_region_lit ?_;refine jL (.agg J5) ?_;refine jV rfl _ _ _ rfl UB _ _ _ HU.out rfl rfl (by rw[zi];rfl) rfl zW ?_;simp only[Act.put,pa,pb,pc];obtain⟨w9,e9⟩:=je (iO.setRow UB J5);have L8:w9.heap[UB]?=some (.cells J5 33 (0,0)):=by rw[e9];exact setRow_heap _ _ _ _ _ _ HU.out
 have L6:Below w.heap.size w w9:=by rw[e9];exact below_setRow HB.out HUW.out _
 have bI:=jh L8;have fD:=jh L6;rw[<-e9];clear e9 L8 L6
 go_wp2_with fail
 refine bodyPost_ret (qv rfl _ w9 UB _ _ _ _ rfl bI.out underlying33 rfl (by rw[zi];rfl) (.bool false) rfl) rfl ⟨0,0,0,0,0,0,none,0,0,false,by rw[JX],(fun h=>by cases h),fD.out⟩
theorem FY{gp gq gg gh lg n cap:Nat}{fa se:Int}{ao:Option Addr}{sk:List (Nat×Nat)}(hm:Jt gp gg)(h0:lg=0)(IB:gp<jk)(hgq:gq<jk)(hgg:gg<jk)(aK:lg<jk)(hfa: -9223372036854775808<=fa/\fa<=9223372036854775807)(hse: -9223372036854775808<=se/\se<=9223372036854775807)(hsk:∀k∈sk,k.1<jk/\k.2<jk)(hn:n=sk.length)(hcap:n<=cap)(hcm:cap<=maxLen)(w:World)(hk:0<n->∃b o,ao=some ⟨b,o,none⟩/\Y4 w b o sk):
  Calls prog 4 #[Qo gp gq gg gh lg fa se (.slice ao n cap)] w fun e w'=>∃(p q g h:Nat) (f s:Int) (a:Option Addr) (n9 c9:Nat) (ok:Bool),e=.returned (.tuple #[zC p q g h f s (.slice a n9 c9),.bool ok])/\(ok=true->p=gp/\q=gq/\g=gg/\h=gg^lg%gp/\f=fa/\s=se/\n9=n/\mQ w' gp gq gg lg n fa se sk a)/\Below w.heap.size w w':=by
 have TV:0<gp:=by have:=hm.1;omega
 obtain⟨h,hh⟩:=je (gg^lg%gp);have hhM:h<jk:=by rw[hh];exact Nat.lt_trans (Nat.mod_lt _ TV) IB
 have CE:=jh (fun W=>by have h9:=QU (gq:=gq) (gg:=gg) (gh:=gh) hm hgg aK IB W;rw[<-hh] at h9;unfold ji words at h9;exact h9);have hmm:=hcm;unfold maxLen at hmm;have heq:=qX lg 0 aK (by decide);rw[decide_eq_true h0] at heq;have z0:((jg jf 0 0:Nat):Int)=0:=by rw[jN];rfl
 have z1:((jg jf 0 1:Nat):Int)=0:=by rw[jN];rfl
 have z2:((jg jf 0 2:Nat):Int)=0:=by rw[jN];rfl
 have z3:((jg jf 0 3:Nat):Int)=0:=by rw[jN];rfl
 simp only[z0,z1,z2,z3] at heq;clear z0 z1 z2 z3;clear hh hm IB hgq hgg aK hfa hse hsk hn hk TV hhM h0;unfold Qo
 go_enter func4,ntmps4
 go_upto_region 1 with fail
 obtain⟨V8,e0⟩:=je (w.alloc (.cells #[.int .u64 (jg jf gp 0),.int .u64 (jg jf gp 1),.int .u64 (jg jf gp 2),.int .u64 (jg jf gp 3),.int .u64 (jg jf gq 0),.int .u64 (jg jf gq 1),.int .u64 (jg jf gq 2),.int .u64 (jg jf gq 3),.int .u64 (jg jf gg 0),.int .u64 (jg jf gg 1),.int .u64 (jg jf gg 2),.int .u64 (jg jf gg 3),.int .u64 (jg jf gh 0),.int .u64 (jg jf gh 1),.int .u64 (jg jf gh 2),.int .u64 (jg jf gh 3),.int .u64 (jg jf lg 0),.int .u64 (jg jf lg 1),.int .u64 (jg jf lg 2),.int .u64 (jg jf lg 3),.int .i64 fa,.int .i64 se,.slice ao n cap] 29));obtain⟨v_1,e1⟩:=je (V8.alloc (.cells #[.int .u64 0,.int .u64 0,.int .u64 0,.int .u64 0,.int .u64 0,.int .u64 0,.int .u64 0,.int .u64 0,.int .u64 0,.int .u64 0,.int .u64 0,.int .u64 0,.int .u64 0,.int .u64 0,.int .u64 0,.int .u64 0,.int .i64 0,.int .i64 0,.slice none 0 0] 33));have s0:V8.heap.size=w.heap.size+1:=by rw[e0];simp
 have s1:v_1.heap.size=w.heap.size+1+1:=by rw[e1];simp[s0]
 have b0:=jc e0;have b1:=jc e1;have f0:J3 V8 w.heap.size gp gq gg gh:=by rw[e0];exact kE
 have f1:Z4 V8 w.heap.size 16 lg:=fun j hj=>by rw[e0,cell_of_row _ _ _ _ _ _ jQ];rcases(show j=0∨j=1∨j=2∨j=3 by omega) with rfl|rfl|rfl|rfl<;>rfl
 have f20:V8.cell? ⟨w.heap.size,20,none⟩=some (.int .i64 fa):=by rw[e0,cell_of_row _ _ _ _ _ _ jQ];rfl
 have f21:V8.cell? ⟨w.heap.size,21,none⟩=some (.int .i64 se):=by rw[e0,cell_of_row _ _ _ _ _ _ jQ];rfl
 have f22:V8.cell? ⟨w.heap.size,22,none⟩=some (.slice ao n cap):=by rw[e0,cell_of_row _ _ _ _ _ _ jQ];rfl
 have f9:v_1.heap[w.heap.size+1]?=some (.cells J5 33 (0,0)):=by rw[<-s0,e1];exact jQ
 rw[<-e0,<-e1];obtain⟨CB,dS⟩:=je (w.heap.size);rw[<-dS] at f0 f1 f20 f21 f22 f9 s1⊢;obtain⟨UB,hUB⟩:=je (CB+1);rw[<-hUB] at f9 s1⊢;have HC:=jh (f0.later b1);have HL:=jh (Z4.later b1 f1);have rD:=jh (jj f20 b1);have oD:=jh (jj f21 b1);have Z8:=jh (jj f22 b1);have HU:=jh f9;have HB:=jh (jm b0 b1);have HUW:=jh (show w.heap.size<=UB by omega);clear e0 e1 s0 s1 b0 b1 f0 f1 f20 f21 f22 f9 dS hUB;refine wp_region_lit ?_;refine jL (jP CB 0) ?_;refine jL _ ?_ (jd (qP HC.out))
 go_upto_region 2 with fail
 obtain⟨U8,GB,e9,h9,hb⟩:=qJ v_1 (.cells (jG gp gq gg gh) 26);have HG:=jh (show J3 U8 GB gp gq gg gh by rw[e9,h9];exact J3.new _ _ _ _ _ _);have wJ:=jh (show Y0 U8 GB 16 by rw[e9,h9];exact Y0.new _ _ _ _);have UC:=jh (show GB<U8.heap.size by rw[e9,h9];simp);have WGB:=jh (show v_1.heap.size=GB from h9.symm);have nGB:=jh (show CB≠GB/\UB≠GB by have a1:=HC.out.lt;have a2:=(J6.1 HU.out).1;omega);have bGB:=jh (show w.heap.size<=GB by rw[h9];exact HB.out.size);rw[<-e9,<-h9];clear e9 h9;have HL:=jh (Z4.later hb HL.out);have HC:=jh (HC.out.later hb);have rD:=jh (jj rD.out hb);have oD:=jh (jj oD.out hb);have Z8:=jh (jj Z8.out hb);have HU:=jb hb HU;have HB:=jw HB hb;clear hb;refine wp_region_lit ?_;refine jL _ ?_ (jd (qP HG.out));refine jL (jP GB 8) ?_;refine jL _ ?_ (jd (jZ HG.out.2.2.1));refine jL (jP CB 16) ?_;refine jL _ ?_ (jd (jZ HL.out))
 go_wp2_with fail
 refine(CE.out _).mono ?_;rintro _ fC ⟨rfl,hb⟩;have HL:=jh (Z4.later hb HL.out);have HC:=jh (HC.out.later hb);have rD:=jh (jj rD.out hb);have oD:=jh (jj oD.out hb);have Z8:=jh (jj Z8.out hb);have HU:=jb hb HU;have HB:=jw HB hb;have HG:=jh (HG.out.later hb);have wJ:=jh (wJ.out.later hb UC.out);have UC:=jl UC hb.size;clear hb
 go_upto_region 3 with fail
 obtain⟨iO,IC,e9,h9,hb⟩:=qJ fC (.cells (jD h) 24);have HH:=jh (show U0 iO IC h by rw[e9,h9];exact U0.new _ _ _ _ rfl);have aP:=jh (show IC<iO.heap.size by rw[e9,h9];simp);have WHB9:=jh (show fC.heap.size=IC from h9.symm);have nHB:=jh (show IC≠GB by have a1:=UC.out;omega);rw[<-e9,<-h9];clear e9 h9;have HL:=jh (Z4.later hb HL.out);have HC:=jh (HC.out.later hb);have rD:=jh (jj rD.out hb);have oD:=jh (jj oD.out hb);have Z8:=jh (jj Z8.out hb);have HU:=jb hb HU;have HB:=jw HB hb;have HG:=jh (HG.out.later hb);have wJ:=jh (wJ.out.later hb UC.out);have UC:=jl UC hb.size;clear hb;have l0:=HL.out 0 (by decide);have l1:=HL.out 1 (by decide);have l2:=HL.out 2 (by decide);have l3:=HL.out 3 (by decide);simp only[Nat.reduceAdd] at l0 l1 l2 l3;have q22:=Z8.out
 go_upto_region 4 with fail
 refine wp_region_lit ?_;refine jL (.agg J5) ?_;refine jV rfl _ _ _ rfl UB _ _ _ HU.out rfl rfl (by rw[zi];rfl) rfl zW ?_;simp only[Act.put,pa,pb,pc];obtain⟨w9,e9⟩:=je (iO.setRow UB J5);have L8:w9.heap[UB]?=some (.cells J5 33 (0,0)):=by rw[e9];exact setRow_heap _ _ _ _ _ _ HU.out
 have L6:Below w.heap.size w w9:=by rw[e9];exact below_setRow HB.out HUW.out _
 have bI:=jh L8;have fD:=jh L6;rw[<-e9];clear e9 L8 L6
 go_wp2_with fail
 refine bodyPost_ret (qv rfl _ w9 UB _ _ _ _ rfl bI.out underlying33 rfl (by rw[zi];rfl) (.bool false) rfl) rfl ⟨0,0,0,0,0,0,none,0,0,false,by rw[JX],(fun h=>by cases h),fD.out⟩
theorem tV{gp gq gg gh lg n cap:Nat}{fa se:Int}{ao:Option Addr}{sk:List (Nat×Nat)}(hm:Jt gp gg)(h0:lg≠0)(h1:7<n)(IB:gp<jk)(hgq:gq<jk)(hgg:gg<jk)(aK:lg<jk)(hfa: -9223372036854775808<=fa/\fa<=9223372036854775807)(hse: -9223372036854775808<=se/\se<=9223372036854775807)(hsk:∀k∈sk,k.1<jk/\k.2<jk)(hn:n=sk.length)(hcap:n<=cap)(hcm:cap<=maxLen)(w:World)(hk:0<n->∃b o,ao=some ⟨b,o,none⟩/\Y4 w b o sk):
  Calls prog 4 #[Qo gp gq gg gh lg fa se (.slice ao n cap)] w fun e w'=>∃(p q g h:Nat) (f s:Int) (a:Option Addr) (n9 c9:Nat) (ok:Bool),e=.returned (.tuple #[zC p q g h f s (.slice a n9 c9),.bool ok])/\(ok=true->p=gp/\q=gq/\g=gg/\h=gg^lg%gp/\f=fa/\s=se/\n9=n/\mQ w' gp gq gg lg n fa se sk a)/\Below w.heap.size w w':=by
 have TV:0<gp:=by have:=hm.1;omega
 obtain⟨h,hh⟩:=je (gg^lg%gp);have hhM:h<jk:=by rw[hh];exact Nat.lt_trans (Nat.mod_lt _ TV) IB
 have CE:=jh (fun W=>by have h9:=QU (gq:=gq) (gg:=gg) (gh:=gh) hm hgg aK IB W;rw[<-hh] at h9;unfold ji words at h9;exact h9);have hmm:=hcm;unfold maxLen at hmm;have heq:=qX lg 0 aK (by decide);rw[decide_eq_false h0] at heq;have z0:((jg jf 0 0:Nat):Int)=0:=by rw[jN];rfl
 have z1:((jg jf 0 1:Nat):Int)=0:=by rw[jN];rfl
 have z2:((jg jf 0 2:Nat):Int)=0:=by rw[jN];rfl
 have z3:((jg jf 0 3:Nat):Int)=0:=by rw[jN];rfl
 simp only[z0,z1,z2,z3] at heq;clear z0 z1 z2 z3;have h1I:(7:Int)<(n:Int):=by omega
 clear h1;clear hh hm IB hgq hgg aK hfa hse hsk hn hk TV hhM h0;unfold Qo
 go_enter func4,ntmps4
 go_upto_region 1 with fail
 obtain⟨V8,e0⟩:=je (w.alloc (.cells #[.int .u64 (jg jf gp 0),.int .u64 (jg jf gp 1),.int .u64 (jg jf gp 2),.int .u64 (jg jf gp 3),.int .u64 (jg jf gq 0),.int .u64 (jg jf gq 1),.int .u64 (jg jf gq 2),.int .u64 (jg jf gq 3),.int .u64 (jg jf gg 0),.int .u64 (jg jf gg 1),.int .u64 (jg jf gg 2),.int .u64 (jg jf gg 3),.int .u64 (jg jf gh 0),.int .u64 (jg jf gh 1),.int .u64 (jg jf gh 2),.int .u64 (jg jf gh 3),.int .u64 (jg jf lg 0),.int .u64 (jg jf lg 1),.int .u64 (jg jf lg 2),.int .u64 (jg jf lg 3),.int .i64 fa,.int .i64 se,.slice ao n cap] 29));obtain⟨v_1,e1⟩:=je (V8.alloc (.cells #[.int .u64 0,.int .u64 0,.int .u64 0,.int .u64 0,.int .u64 0,.int .u64 0,.int .u64 0,.int .u64 0,.int .u64 0,.int .u64 0,.int .u64 0,.int .u64 0,.int .u64 0,.int .u64 0,.int .u64 0,.int .u64 0,.int .i64 0,.int .i64 0,.slice none 0 0] 33));have s0:V8.heap.size=w.heap.size+1:=by rw[e0];simp
 have s1:v_1.heap.size=w.heap.size+1+1:=by rw[e1];simp[s0]
 have b0:=jc e0;have b1:=jc e1;have f0:J3 V8 w.heap.size gp gq gg gh:=by rw[e0];exact kE
 have f1:Z4 V8 w.heap.size 16 lg:=fun j hj=>by rw[e0,cell_of_row _ _ _ _ _ _ jQ];rcases(show j=0∨j=1∨j=2∨j=3 by omega) with rfl|rfl|rfl|rfl<;>rfl
 have f20:V8.cell? ⟨w.heap.size,20,none⟩=some (.int .i64 fa):=by rw[e0,cell_of_row _ _ _ _ _ _ jQ];rfl
 have f21:V8.cell? ⟨w.heap.size,21,none⟩=some (.int .i64 se):=by rw[e0,cell_of_row _ _ _ _ _ _ jQ];rfl
 have f22:V8.cell? ⟨w.heap.size,22,none⟩=some (.slice ao n cap):=by rw[e0,cell_of_row _ _ _ _ _ _ jQ];rfl
 have f9:v_1.heap[w.heap.size+1]?=some (.cells J5 33 (0,0)):=by rw[<-s0,e1];exact jQ
 rw[<-e0,<-e1];obtain⟨CB,dS⟩:=je (w.heap.size);rw[<-dS] at f0 f1 f20 f21 f22 f9 s1⊢;obtain⟨UB,hUB⟩:=je (CB+1);rw[<-hUB] at f9 s1⊢;have HC:=jh (f0.later b1);have HL:=jh (Z4.later b1 f1);have rD:=jh (jj f20 b1);have oD:=jh (jj f21 b1);have Z8:=jh (jj f22 b1);have HU:=jh f9;have HB:=jh (jm b0 b1);have HUW:=jh (show w.heap.size<=UB by omega);clear e0 e1 s0 s1 b0 b1 f0 f1 f20 f21 f22 f9 dS hUB;refine wp_region_lit ?_;refine jL (jP CB 0) ?_;refine jL _ ?_ (jd (qP HC.out))
 go_upto_region 2 with fail
 obtain⟨U8,GB,e9,h9,hb⟩:=qJ v_1 (.cells (jG gp gq gg gh) 26);have HG:=jh (show J3 U8 GB gp gq gg gh by rw[e9,h9];exact J3.new _ _ _ _ _ _);have wJ:=jh (show Y0 U8 GB 16 by rw[e9,h9];exact Y0.new _ _ _ _);have UC:=jh (show GB<U8.heap.size by rw[e9,h9];simp);have WGB:=jh (show v_1.heap.size=GB from h9.symm);have nGB:=jh (show CB≠GB/\UB≠GB by have a1:=HC.out.lt;have a2:=(J6.1 HU.out).1;omega);have bGB:=jh (show w.heap.size<=GB by rw[h9];exact HB.out.size);rw[<-e9,<-h9];clear e9 h9;have HL:=jh (Z4.later hb HL.out);have HC:=jh (HC.out.later hb);have rD:=jh (jj rD.out hb);have oD:=jh (jj oD.out hb);have Z8:=jh (jj Z8.out hb);have HU:=jb hb HU;have HB:=jw HB hb;clear hb;refine wp_region_lit ?_;refine jL _ ?_ (jd (qP HG.out));refine jL (jP GB 8) ?_;refine jL _ ?_ (jd (jZ HG.out.2.2.1));refine jL (jP CB 16) ?_;refine jL _ ?_ (jd (jZ HL.out))
 go_wp2_with fail
 refine(CE.out _).mono ?_;rintro _ fC ⟨rfl,hb⟩;have HL:=jh (Z4.later hb HL.out);have HC:=jh (HC.out.later hb);have rD:=jh (jj rD.out hb);have oD:=jh (jj oD.out hb);have Z8:=jh (jj Z8.out hb);have HU:=jb hb HU;have HB:=jw HB hb;have HG:=jh (HG.out.later hb);have wJ:=jh (wJ.out.later hb UC.out);have UC:=jl UC hb.size;clear hb
 go_upto_region 3 with fail
 obtain⟨iO,IC,e9,h9,hb⟩:=qJ fC (.cells (jD h) 24);have HH:=jh (show U0 iO IC h by rw[e9,h9];exact U0.new _ _ _ _ rfl);have aP:=jh (show IC<iO.heap.size by rw[e9,h9];simp);have WHB9:=jh (show fC.heap.size=IC from h9.symm);have nHB:=jh (show IC≠GB by have a1:=UC.out;omega);rw[<-e9,<-h9];clear e9 h9;have HL:=jh (Z4.later hb HL.out);have HC:=jh (HC.out.later hb);have rD:=jh (jj rD.out hb);have oD:=jh (jj oD.out hb);have Z8:=jh (jj Z8.out hb);have HU:=jb hb HU;have HB:=jw HB hb;have HG:=jh (HG.out.later hb);have wJ:=jh (wJ.out.later hb UC.out);have UC:=jl UC hb.size;clear hb;have l0:=HL.out 0 (by decide);have l1:=HL.out 1 (by decide);have l2:=HL.out 2 (by decide);have l3:=HL.out 3 (by decide);simp only[Nat.reduceAdd] at l0 l1 l2 l3;have q22:=Z8.out
 go_upto_region 4 with fail
 refine wp_region_lit ?_;refine jL (.agg J5) ?_;refine jV rfl _ _ _ rfl UB _ _ _ HU.out rfl rfl (by rw[zi];rfl) rfl zW ?_;simp only[Act.put,pa,pb,pc];obtain⟨w9,e9⟩:=je (iO.setRow UB J5);have L8:w9.heap[UB]?=some (.cells J5 33 (0,0)):=by rw[e9];exact setRow_heap _ _ _ _ _ _ HU.out
 have L6:Below w.heap.size w w9:=by rw[e9];exact below_setRow HB.out HUW.out _
 have bI:=jh L8;have fD:=jh L6;rw[<-e9];clear e9 L8 L6
 go_wp2_with fail
 refine bodyPost_ret (qv rfl _ w9 UB _ _ _ _ rfl bI.out underlying33 rfl (by rw[zi];rfl) (.bool false) rfl) rfl ⟨0,0,0,0,0,0,none,0,0,false,by rw[JX],(fun h=>by cases h),fD.out⟩
theorem uV{gp gq gg gh lg n cap:Nat}{fa se:Int}{ao:Option Addr}{sk:List (Nat×Nat)}(hm:Jt gp gg)(h0:lg≠0)(h1:n<=7)(IB:gp<jk)(hgq:gq<jk)(hgg:gg<jk)(aK:lg<jk)(hfa: -9223372036854775808<=fa/\fa<=9223372036854775807)(hse: -9223372036854775808<=se/\se<=9223372036854775807)(hsk:∀k∈sk,k.1<jk/\k.2<jk)(hn:n=sk.length)(hcap:n<=cap)(hcm:cap<=maxLen)(w:World)(hk:0<n->∃b o,ao=some ⟨b,o,none⟩/\Y4 w b o sk):
  Calls prog 4 #[Qo gp gq gg gh lg fa se (.slice ao n cap)] w fun e w'=>∃(p q g h:Nat) (f s:Int) (a:Option Addr) (n9 c9:Nat) (ok:Bool),e=.returned (.tuple #[zC p q g h f s (.slice a n9 c9),.bool ok])/\(ok=true->p=gp/\q=gq/\g=gg/\h=gg^lg%gp/\f=fa/\s=se/\n9=n/\mQ w' gp gq gg lg n fa se sk a)/\Below w.heap.size w w':=by
 have TV:0<gp:=by have:=hm.1;omega
 obtain⟨h,hh⟩:=je (gg^lg%gp);have hhM:h<jk:=by rw[hh];exact Nat.lt_trans (Nat.mod_lt _ TV) IB
 have CE:=jh (fun W=>by have h9:=QU (gq:=gq) (gg:=gg) (gh:=gh) hm hgg aK IB W;rw[<-hh] at h9;unfold ji words at h9;exact h9);have hmm:=hcm;unfold maxLen at hmm;have heq:=fun W=>qX lg 0 aK (by decide) W
 simp only[decide_eq_false h0] at heq;have z0:((jg jf 0 0:Nat):Int)=0:=by rw[jN];rfl
 have z1:((jg jf 0 1:Nat):Int)=0:=by rw[jN];rfl
 have z2:((jg jf 0 2:Nat):Int)=0:=by rw[jN];rfl
 have z3:((jg jf 0 3:Nat):Int)=0:=by rw[jN];rfl
 simp only[z0,z1,z2,z3] at heq;clear z0 z1 z2 z3;have h1I:¬(7:Int)<(n:Int):=by omega
 have CP:=jh (fun W=>by have h9:=Prime_any (gp:=gp) (gq:=gq) (gg:=gg) (gh:=gh) (lg:=lg) (fa:=fa) (se:=se) (ks:=.slice ao n cap) IB hgq W;unfold Qo at h9;exact h9);have HEQ9:=jh heq;have HHE:=jh hh;have HMAY:=jh hm;have HLOG:=jh h0;have HLE:=jh h1;have HGP:=jh IB;have HGQ:=jh hgq;have HGGm:=jh hgg;have HHM:=jh hhM;have HSK:=jh hsk;have HN:=jh hn;have HK:=jh hk;have HFA:=jh hfa;have HSE:=jh hse;have HCM:=jh hcm;have HCAP:=jh hcap;clear heq hh hm IB hgq hgg aK hfa hse hsk hn hk TV hhM h0 h1 hcm hcap;unfold Qo
 go_enter func4,ntmps4
 go_upto_region 1 with fail
 obtain⟨V8,e0⟩:=je (w.alloc (.cells #[.int .u64 (jg jf gp 0),.int .u64 (jg jf gp 1),.int .u64 (jg jf gp 2),.int .u64 (jg jf gp 3),.int .u64 (jg jf gq 0),.int .u64 (jg jf gq 1),.int .u64 (jg jf gq 2),.int .u64 (jg jf gq 3),.int .u64 (jg jf gg 0),.int .u64 (jg jf gg 1),.int .u64 (jg jf gg 2),.int .u64 (jg jf gg 3),.int .u64 (jg jf gh 0),.int .u64 (jg jf gh 1),.int .u64 (jg jf gh 2),.int .u64 (jg jf gh 3),.int .u64 (jg jf lg 0),.int .u64 (jg jf lg 1),.int .u64 (jg jf lg 2),.int .u64 (jg jf lg 3),.int .i64 fa,.int .i64 se,.slice ao n cap] 29));obtain⟨v_1,e1⟩:=je (V8.alloc (.cells #[.int .u64 0,.int .u64 0,.int .u64 0,.int .u64 0,.int .u64 0,.int .u64 0,.int .u64 0,.int .u64 0,.int .u64 0,.int .u64 0,.int .u64 0,.int .u64 0,.int .u64 0,.int .u64 0,.int .u64 0,.int .u64 0,.int .i64 0,.int .i64 0,.slice none 0 0] 33));have s0:V8.heap.size=w.heap.size+1:=by rw[e0];simp
 have s1:v_1.heap.size=w.heap.size+1+1:=by rw[e1];simp[s0]
 have b0:=jc e0;have b1:=jc e1;have f0:J3 V8 w.heap.size gp gq gg gh:=by rw[e0];exact kE
 have f1:Z4 V8 w.heap.size 16 lg:=fun j hj=>by rw[e0,cell_of_row _ _ _ _ _ _ jQ];rcases(show j=0∨j=1∨j=2∨j=3 by omega) with rfl|rfl|rfl|rfl<;>rfl
 have f20:V8.cell? ⟨w.heap.size,20,none⟩=some (.int .i64 fa):=by rw[e0,cell_of_row _ _ _ _ _ _ jQ];rfl
 have f21:V8.cell? ⟨w.heap.size,21,none⟩=some (.int .i64 se):=by rw[e0,cell_of_row _ _ _ _ _ _ jQ];rfl
 have f22:V8.cell? ⟨w.heap.size,22,none⟩=some (.slice ao n cap):=by rw[e0,cell_of_row _ _ _ _ _ _ jQ];rfl
 have f9:v_1.heap[w.heap.size+1]?=some (.cells J5 33 (0,0)):=by rw[<-s0,e1];exact jQ
 rw[<-e0,<-e1];obtain⟨CB,dS⟩:=je (w.heap.size);rw[<-dS] at f0 f1 f20 f21 f22 f9 s1⊢;obtain⟨UB,hUB⟩:=je (CB+1);rw[<-hUB] at f9 s1⊢;have HC:=jh (f0.later b1);have HL:=jh (Z4.later b1 f1);have rD:=jh (jj f20 b1);have oD:=jh (jj f21 b1);have Z8:=jh (jj f22 b1);have HU:=jh f9;have HB:=jh (jm b0 b1);have HUW:=jh (show w.heap.size<=UB by omega);clear e0 e1 s0 s1 b0 b1 f0 f1 f20 f21 f22 f9 dS hUB;refine wp_region_lit ?_;refine jL (jP CB 0) ?_;refine jL _ ?_ (jd (qP HC.out))
 go_upto_region 2 with fail
 obtain⟨U8,GB,e9,h9,hb⟩:=qJ v_1 (.cells (jG gp gq gg gh) 26);have HG:=jh (show J3 U8 GB gp gq gg gh by rw[e9,h9];exact J3.new _ _ _ _ _ _);have wJ:=jh (show Y0 U8 GB 16 by rw[e9,h9];exact Y0.new _ _ _ _);have UC:=jh (show GB<U8.heap.size by rw[e9,h9];simp);have WGB:=jh (show v_1.heap.size=GB from h9.symm);have nGB:=jh (show CB≠GB/\UB≠GB by have a1:=HC.out.lt;have a2:=(J6.1 HU.out).1;omega);have bGB:=jh (show w.heap.size<=GB by rw[h9];exact HB.out.size);rw[<-e9,<-h9];clear e9 h9;have HL:=jh (Z4.later hb HL.out);have HC:=jh (HC.out.later hb);have rD:=jh (jj rD.out hb);have oD:=jh (jj oD.out hb);have Z8:=jh (jj Z8.out hb);have HU:=jb hb HU;have HB:=jw HB hb;clear hb;refine wp_region_lit ?_;refine jL _ ?_ (jd (qP HG.out));refine jL (jP GB 8) ?_;refine jL _ ?_ (jd (jZ HG.out.2.2.1));refine jL (jP CB 16) ?_;refine jL _ ?_ (jd (jZ HL.out))
 go_wp2_with fail
 refine(CE.out _).mono ?_;rintro _ fC ⟨rfl,hb⟩;have HL:=jh (Z4.later hb HL.out);have HC:=jh (HC.out.later hb);have rD:=jh (jj rD.out hb);have oD:=jh (jj oD.out hb);have Z8:=jh (jj Z8.out hb);have HU:=jb hb HU;have HB:=jw HB hb;have HG:=jh (HG.out.later hb);have wJ:=jh (wJ.out.later hb UC.out);have UC:=jl UC hb.size;clear hb
 go_upto_region 3 with fail
 obtain⟨iO,IC,e9,h9,hb⟩:=qJ fC (.cells (jD h) 24);have HH:=jh (show U0 iO IC h by rw[e9,h9];exact U0.new _ _ _ _ rfl);have aP:=jh (show IC<iO.heap.size by rw[e9,h9];simp);have WHB9:=jh (show fC.heap.size=IC from h9.symm);have nHB:=jh (show IC≠GB by have a1:=UC.out;omega);rw[<-e9,<-h9];clear e9 h9;have HL:=jh (Z4.later hb HL.out);have HC:=jh (HC.out.later hb);have rD:=jh (jj rD.out hb);have oD:=jh (jj oD.out hb);have Z8:=jh (jj Z8.out hb);have HU:=jb hb HU;have HB:=jw HB hb;have HG:=jh (HG.out.later hb);have wJ:=jh (wJ.out.later hb UC.out);have UC:=jl UC hb.size;clear hb;refine wp_region_lit ?_;refine jL (.int .i64 0) ?_
 iterate 2
  refine jL (.bool false) ?_
 refine jt (v:=.pointer (some ⟨CB,16,none⟩)) (by kernel_rfl) (by kernel_rfl) ?_;simp only[Act.put,pa,pb,pc];refine jt (by kernel_rfl) (jd (jZ HL.out)) ?_;simp only[Act.put,pa,pb,pc];refine jt (v:=.agg #[.int .u64 0,.int .u64 0,.int .u64 0,.int .u64 0]) (by kernel_rfl) (by kernel_rfl) ?_;simp only[Act.put,pa,pb,pc];refine jt (v:=.bool false) (by kernel_rfl) (qB Qk rfl (by kernel_rfl) (by kernel_rfl) (HEQ9.out _)) ?_;simp only[Act.put,pa,pb,pc]
 iterate 2
  refine jL (.bool false) ?_
 refine jt (v:=.pointer (some ⟨CB,22,none⟩)) (by kernel_rfl) (by kernel_rfl) ?_;simp only[Act.put,pa,pb,pc];refine jt (v:=.slice ao n cap) (by kernel_rfl) (jd (loadSl Z8.out)) ?_;simp only[Act.put,pa,pb,pc];refine jt (v:=.int .i64 n) (by kernel_rfl) (by kernel_rfl) ?_;simp only[Act.put,pa,pb,pc];refine jt (v:=.bool false) (by kernel_rfl) (by simp[go_sem,h1I]) ?_;simp only[Act.put,pa,pb,pc]
 iterate 2
  refine jL (.bool false) ?_
 refine jt (by kernel_rfl) (jd (loadC9 HC.out HL.out rD.out oD.out Z8.out)) ?_;simp only[Act.put,pa,pb,pc]
 go_wp2_with fail
 refine(CP.out _).mono ?_;rintro _ v_5 ⟨ok,rfl,hpr,hb⟩;have HL:=jh (Z4.later hb HL.out);have HC:=jh (HC.out.later hb);have rD:=jh (jj rD.out hb);have oD:=jh (jj oD.out hb);have Z8:=jh (jj Z8.out hb);have HU:=jb hb HU;have HB:=jw HB hb;have HG:=jh (HG.out.later hb);have wJ:=jh (wJ.out.later hb UC.out);have HH:=jn hb HH;have UC:=jl UC hb.size;have aP:=jl aP hb.size;clear hb
 cases ok
 rotate_left
 ·have HPR:=jh (hpr rfl);clear hpr
  go_upto_region 5 with fail
  have NGB:=jh (show CB≠GB/\UB≠GB/\IC≠GB from⟨nGB.out.1,nGB.out.2,nHB.out⟩);obtain⟨h12,h13,h14,h15⟩:=(show _/\_/\_/\_ from⟨HG.out.2.2.2 0 (by decide),HG.out.2.2.2 1 (by decide),HG.out.2.2.2 2 (by decide),HG.out.2.2.2 3 (by decide)⟩);simp only[Nat.reduceAdd] at h12 h13 h14 h15;have f12:=wJ.out 12 (by decide);have f13:=wJ.out 13 (by decide);have f14:=wJ.out 14 (by decide);have f15:=wJ.out 15 (by decide);obtain⟨r0,r1,r2,r3⟩:=jF HH.out
  go_upto_region 6 with fail
  clear h12 h13 h14 h15 f12 f13 f14 f15 r0 r1 r2 r3;obtain⟨v_6,e9⟩:=je ((((v_5.setCell ⟨GB,12,none⟩ (.int .u64 (jg jf h 0))).setCell ⟨GB,13,none⟩ (.int .u64 (jg jf h 1))).setCell ⟨GB,14,none⟩ (.int .u64 (jg jf h 2))).setCell ⟨GB,15,none⟩ (.int .u64 (jg jf h 3)));have hgs:v_5.grownBy v_6 (some GB):=by rw[e9];exact jT (jT (jT (jT (World.grownBy.refl v_5 (some GB)) 12 _) 13 _) 14 _) 15 _
  have HGN:=jh (show J3 v_6 GB gp gq gg h by rw[e9];exact grp_setH HG.out h);rw[<-e9];clear e9 wJ;clear HC HL HH CP HEQ9;have rD:=jh (zF rD.out hgs (fun e=>NGB.out.1 (by injection e)));have oD:=jh (zF oD.out hgs (fun e=>NGB.out.1 (by injection e)));have Z8:=jh (zF Z8.out hgs (fun e=>NGB.out.1 (by injection e)));have HU:=jh (Jh HU.out hgs (fun e=>NGB.out.2.1 (by injection e)));have HB:=jh (HB.out.grown hgs HB.out.size (fun k hk=>by have e7:GB=k:=(by injection hk);rw[<-e7];exact bGB.out));have UC:=jl UC hgs.size;have aP:=jl aP hgs.size;clear hgs;have HG:=HGN;clear HGN;refine wp_region_lit ?_;refine jL _ ?_ (jd (qP HG.out));refine jL (jP CB 20) ?_;refine jL (.int .i64 fa) ?_ (jd (ZK rD.out));refine jL (jP CB 21) ?_;refine jL (.int .i64 se) ?_ (jd (ZK oD.out));refine jL (.agg #[.int .u64 (jg jf gp 0),.int .u64 (jg jf gp 1),.int .u64 (jg jf gp 2),.int .u64 (jg jf gp 3),.int .u64 (jg jf gq 0),.int .u64 (jg jf gq 1),.int .u64 (jg jf gq 2),.int .u64 (jg jf gq 3),.int .u64 (jg jf gg 0),.int .u64 (jg jf gg 1),.int .u64 (jg jf gg 2),.int .u64 (jg jf gg 3),.int .u64 (jg jf h 0),.int .u64 (jg jf h 1),.int .u64 (jg jf h 2),.int .u64 (jg jf h 3),.int .i64 fa,.int .i64 se,.slice none 0 0]) ?_;refine qq (v:=.pointer (some ⟨v_6.heap.size,0,none⟩)) (w':=v_6.alloc (.cells J5 33)) rfl (by kernel_rfl) ?_;simp only[Act.put,pa,pb,pc];refine jW rfl _ _ _ rfl J5 #[.int .u64 (jg jf gp 0),.int .u64 (jg jf gp 1),.int .u64 (jg jf gp 2),.int .u64 (jg jf gp 3),.int .u64 (jg jf gq 0),.int .u64 (jg jf gq 1),.int .u64 (jg jf gq 2),.int .u64 (jg jf gq 3),.int .u64 (jg jf gg 0),.int .u64 (jg jf gg 1),.int .u64 (jg jf gg 2),.int .u64 (jg jf gg 3),.int .u64 (jg jf h 0),.int .u64 (jg jf h 1),.int .u64 (jg jf h 2),.int .u64 (jg jf h 3),.int .i64 fa,.int .i64 se,.slice none 0 0] rfl rfl (by rw[zi];rfl) rfl (by kernel_rfl) ?_;simp only[Act.put,pa,pb,pc]
  go_upto_region 7 with fail
  have NE6:=jh (show CB<v_6.heap.size/\UB<v_6.heap.size/\GB<v_6.heap.size/\w.heap.size<=v_6.heap.size from⟨World.block_lt_of_cell? (a:=⟨CB,22,none⟩) _ Z8.out,(J6.1 HU.out).1,HG.out.lt,HB.out.size⟩);obtain⟨v_7,SB,e9,h9,hb⟩:=qJ v_6 (.cells #[.int .u64 (jg jf gp 0),.int .u64 (jg jf gp 1),.int .u64 (jg jf gp 2),.int .u64 (jg jf gp 3),.int .u64 (jg jf gq 0),.int .u64 (jg jf gq 1),.int .u64 (jg jf gq 2),.int .u64 (jg jf gq 3),.int .u64 (jg jf gg 0),.int .u64 (jg jf gg 1),.int .u64 (jg jf gg 2),.int .u64 (jg jf gg 3),.int .u64 (jg jf h 0),.int .u64 (jg jf h 1),.int .u64 (jg jf h 2),.int .u64 (jg jf h 3),.int .i64 fa,.int .i64 se,.slice none 0 0] 33);have HS:=jh (show TA v_7 SB gp gq gg h fa se (.slice none 0 0) by rw[e9,h9];exact TA.new _ _ _ _ _ _ _ _ _);have LSB:=jh (show SB<v_7.heap.size by rw[e9,h9];simp);have WSB:=jh (show v_6.heap.size=SB from h9.symm);rw[<-e9,<-h9];clear e9 h9;have rD:=jh (jj rD.out hb);have oD:=jh (jj oD.out hb);have Z8:=jh (jj Z8.out hb);have HU:=jb hb HU;have HB:=jw HB hb;have HG:=jh (HG.out.later hb);have UC:=jl UC hb.size;have aP:=jl aP hb.size;clear hb;clear rD oD UC aP;obtain⟨SB1,hSB1⟩:=je (SB+1);have HO:=jh (show O1 v_7 SB1 88 8 (.slice none 0 0) 0 (qo []) from⟨rfl,.inl ⟨rfl,rfl⟩⟩);have fA:=jh (show SB1<=v_7.heap.size by have:=LSB.out;omega);have NE:=jh (show CB<SB1/\UB<SB1/\GB<SB1/\SB<SB1/\w.heap.size<=SB1 by have a1:=NE6.out;have a2:=WSB.out;omega);have NS:=jh (show CB<SB/\UB<SB/\GB<SB/\w.heap.size<=SB by have a1:=NE6.out;have a2:=WSB.out;omega);clear NE6 WSB hSB1 LSB
  go_wp2_with fail
  go_loopw [8] (fun i wr=>∃(k:Nat) (v:Value),k<=n/\i=.int .i64 k/\Hid (∀j x,j<k->sk[j]?=some x->x.1≠0/\x.2≠0/\x.1<gq/\x.2<gq)/\Hid (O1 wr SB1 88 8 v k (qo ((sk.take k).map (fun k:Nat×Nat=>(gg^k.1%gp,h^k.2%gp)))))/\Hid (TA wr SB gp gq gg h fa se v)/\Hid (J3 wr GB gp gq gg h)/\Hid (wr.cell? ⟨CB,22,none⟩=some (.slice ao n cap))/\Hid (wr.heap[UB]?=some (.cells J5 33 (0,0)))/\Hid (Below w.heap.size w wr)/\Hid (SB1<=wr.heap.size)) (fun i _=>n-(intOf i).toNat)
  case atStart=>exact⟨0,_,Nat.zero_le _,rfl,jh (fun j x hj=>absurd hj (Nat.not_lt_zero j)),HO,HS,HG,Z8,HU,HB,fA⟩
  case round=>
   clear HO HS HG Z8 HU HB fA;obtain⟨k,v,hk,rfl,HQK,HO,HS,HG,Z8,HU,HB,fA⟩:=hrel
   by_cases hlt:k<n
   ·obtain⟨x,hx⟩:∃x,sk[k]?=some x:=⟨_,Jd (by rw[<-HN.out];exact hlt)⟩;obtain⟨b,o,hao,hks⟩:=HK.out (by omega);have O6:(k:Int)<(n:Int):=by omega
    have G7:=jh hlt;have U9:=jh (HSK.out x (List.mem_of_getElem? hx));have HXI:=jh hx;have HK1:=jh (show Z4 wr b (o+k*8) x.1 from fun j hj=>jj ((hks k x hx).1 j hj) HB.out);have rU:=jh (show Z4 wr b (o+k*8+4) x.2 from fun j hj=>by have:=jj ((hks k x hx).2 j hj) HB.out;rw[<-Nat.add_assoc] at this;exact this);rw[hao] at Z8;have HAO:=jh hao;clear hlt hx hks hao;obtain⟨x1,x2⟩:=x;have q22:=Z8.out
    go_upto_region 10 with fail
    clear q22;refine wp_region_lit ?_;refine jL (jP CB 22) ?_;refine jL (.slice (some ⟨b,o,none⟩) n cap) ?_ (jd (loadSl Z8.out));refine jL (.int .i64 k) ?_;refine jL (jP b (o+k*8)) ?_ (by simp[go_sem,O6]);refine jL _ ?_ (jd (loadK9 HK1.out rU.out));refine qq (v:=.pointer (some ⟨wr.heap.size,0,none⟩)) (w':=wr.alloc (.cells #[.int .u64 0,.int .u64 0,.int .u64 0,.int .u64 0,.int .u64 0,.int .u64 0,.int .u64 0,.int .u64 0] 86)) rfl (by kernel_rfl) ?_;simp only[Act.put,pa,pb,pc];refine jW rfl _ _ _ rfl #[.int .u64 0,.int .u64 0,.int .u64 0,.int .u64 0,.int .u64 0,.int .u64 0,.int .u64 0,.int .u64 0] #[.int .u64 (jg jf x1 0),.int .u64 (jg jf x1 1),.int .u64 (jg jf x1 2),.int .u64 (jg jf x1 3),.int .u64 (jg jf x2 0),.int .u64 (jg jf x2 1),.int .u64 (jg jf x2 2),.int .u64 (jg jf x2 3)] rfl rfl (by rw[info_s9];rfl) rfl (by kernel_rfl) ?_;simp only[Act.put,pa,pb,pc]
    go_upto_region 11 with fail
    obtain⟨u_1,KB,e9,h9,hb⟩:=qJ wr (.cells (jE x1 x2) 86);have HKR:=jh (show u_1.heap[KB]?=some (.cells #[.int .u64 (jg jf x1 0),.int .u64 (jg jf x1 1),.int .u64 (jg jf x1 2),.int .u64 (jg jf x1 3),.int .u64 (jg jf x2 0),.int .u64 (jg jf x2 1),.int .u64 (jg jf x2 2),.int .u64 (jg jf x2 3)] 86 (0,0)) by rw[e9,h9];exact jQ);have LKB:=jh (show KB<u_1.heap.size by rw[e9,h9];simp);have WKB:=jh (show wr.heap.size=KB from h9.symm);rw[<-e9,<-h9];clear e9 h9;have fA:=jh (Nat.le_trans fA.out hb.size);have HS:=jh (HS.out.later hb);have HG:=jh (HG.out.later hb);have Z8:=jh (jj Z8.out hb);have HU:=jb hb HU;have HB:=jw HB hb;have HO:=jh (HO.out.later hb);clear hb;clear LKB HK1 rU;have PZ:=jh (show x1<jk from U9.out.1);have OZ:=jh (show x2<jk from U9.out.2);have SA:=jh (VE HKR.out).1;have WC:=jh (VE HKR.out).2;clear HKR U9;have HE1:=jh (fun(W:World)=>by have h9:=qX x1 0 PZ.out (by decide) W;simp only[show((jg jf 0 0:Nat):Int)=0 by rw[jN];rfl,show((jg jf 0 1:Nat):Int)=0 by rw[jN];rfl,show((jg jf 0 2:Nat):Int)=0 by rw[jN];rfl,show((jg jf 0 3:Nat):Int)=0 by rw[jN];rfl] at h9;exact h9);have CC1:=jh (fun(W:World)=>by have h9:=zj (a:=x1) (b:=gq) PZ.out HGQ.out W;unfold ji words at h9;exact h9);have HE2:=jh (fun(W:World)=>by have h9:=qX x2 0 OZ.out (by decide) W;simp only[show((jg jf 0 0:Nat):Int)=0 by rw[jN];rfl,show((jg jf 0 1:Nat):Int)=0 by rw[jN];rfl,show((jg jf 0 2:Nat):Int)=0 by rw[jN];rfl,show((jg jf 0 3:Nat):Int)=0 by rw[jN];rfl] at h9;exact h9);have CC2:=jh (fun(W:World)=>by have h9:=zj (a:=x2) (b:=gq) OZ.out HGQ.out W;unfold ji words at h9;exact h9)
    by_cases hz1:x1=0
    ·have HZ1:=jh hz1;refine wp_region_lit ?_;refine jL (jP KB 0) ?_;refine jL _ ?_ (jd (jZ SA.out));refine jL (.agg jA) ?_;refine zu (v:=.bool true) rfl (qB Qk rfl (by kernel_rfl) (by kernel_rfl) (by have h9:=HE1.out;rw[decide_eq_true HZ1.out] at h9;exact h9 _)) ?_;simp only[Act.put,pa,pb,pc];refine jL (.bool true) ?_
     go_upto_region 12 with fail
     refine wp_region_lit ?_;refine jL (.agg J5) ?_;refine jV rfl _ _ _ rfl UB _ _ _ HU.out rfl rfl (by rw[zi];rfl) rfl zW ?_;simp only[Act.put,pa,pb,pc];obtain⟨w9,e9⟩:=je (u_1.setRow UB J5);have L8:w9.heap[UB]?=some (.cells J5 33 (0,0)):=by rw[e9];exact setRow_heap _ _ _ _ _ _ HU.out
     have L6:Below w.heap.size w w9:=by rw[e9];exact below_setRow HB.out HUW.out _
     have bI:=jh L8;have fD:=jh L6;rw[<-e9];clear e9 L8 L6
     go_wp2_with fail
     refine bodyPost_ret (qv rfl _ w9 UB _ _ _ _ rfl bI.out underlying33 rfl (by rw[zi];rfl) (.bool false) rfl) rfl ⟨0,0,0,0,0,0,none,0,0,false,by rw[JX],(fun h=>by cases h),fD.out⟩
    have HZ1:=jh hz1
    by_cases hz2:x2=0
    ·have HZ2:=jh hz2;refine wp_region_lit ?_;refine jL (jP KB 0) ?_;refine jL _ ?_ (jd (jZ SA.out));refine jL (.agg jA) ?_;refine zu (v:=.bool false) rfl (qB Qk rfl (by kernel_rfl) (by kernel_rfl) (by have h9:=HE1.out;rw[decide_eq_false HZ1.out] at h9;exact h9 _)) ?_;simp only[Act.put,pa,pb,pc];refine jL (.bool false) ?_;refine jt (v:=.pointer (some ⟨KB,4,none⟩)) (by kernel_rfl) (by kernel_rfl) ?_;simp only[Act.put,pa,pb,pc];refine jt (by kernel_rfl) (jd (jZ WC.out)) ?_;simp only[Act.put,pa,pb,pc];refine jt (v:=.agg #[.int .u64 0,.int .u64 0,.int .u64 0,.int .u64 0]) (by kernel_rfl) (by kernel_rfl) ?_;simp only[Act.put,pa,pb,pc];refine jt (v:=.bool true) (by kernel_rfl) (qB Qk rfl (by kernel_rfl) (by kernel_rfl) (by have h9:=HE2.out;rw[decide_eq_true HZ2.out] at h9;exact h9 _)) ?_;simp only[Act.put,pa,pb,pc]
     iterate 2
      refine jL (.bool true) ?_
     go_upto_region 12 with fail
     refine wp_region_lit ?_;refine jL (.agg J5) ?_;refine jV rfl _ _ _ rfl UB _ _ _ HU.out rfl rfl (by rw[zi];rfl) rfl zW ?_;simp only[Act.put,pa,pb,pc];obtain⟨w9,e9⟩:=je (u_1.setRow UB J5);have L8:w9.heap[UB]?=some (.cells J5 33 (0,0)):=by rw[e9];exact setRow_heap _ _ _ _ _ _ HU.out
     have L6:Below w.heap.size w w9:=by rw[e9];exact below_setRow HB.out HUW.out _
     have bI:=jh L8;have fD:=jh L6;rw[<-e9];clear e9 L8 L6
     go_wp2_with fail
     refine bodyPost_ret (qv rfl _ w9 UB _ _ _ _ rfl bI.out underlying33 rfl (by rw[zi];rfl) (.bool false) rfl) rfl ⟨0,0,0,0,0,0,none,0,0,false,by rw[JX],(fun h=>by cases h),fD.out⟩
    have HZ2:=jh hz2;clear hz1 hz2;refine wp_region_lit ?_;refine jL (jP KB 0) ?_;refine jL _ ?_ (jd (jZ SA.out));refine jL (.agg jA) ?_;refine zu (v:=.bool false) rfl (qB Qk rfl (by kernel_rfl) (by kernel_rfl) (by have h9:=HE1.out;rw[decide_eq_false HZ1.out] at h9;exact h9 _)) ?_;simp only[Act.put,pa,pb,pc];refine jL (.bool false) ?_;refine jt (v:=.pointer (some ⟨KB,4,none⟩)) (by kernel_rfl) (by kernel_rfl) ?_;simp only[Act.put,pa,pb,pc];refine jt (by kernel_rfl) (jd (jZ WC.out)) ?_;simp only[Act.put,pa,pb,pc];refine jt (v:=.agg #[.int .u64 0,.int .u64 0,.int .u64 0,.int .u64 0]) (by kernel_rfl) (by kernel_rfl) ?_;simp only[Act.put,pa,pb,pc];refine jt (v:=.bool false) (by kernel_rfl) (qB Qk rfl (by kernel_rfl) (by kernel_rfl) (by have h9:=HE2.out;rw[decide_eq_false HZ2.out] at h9;exact h9 _)) ?_;simp only[Act.put,pa,pb,pc]
    iterate 2
     refine jL (.bool false) ?_
    refine jt (v:=.pointer (some ⟨KB,0,none⟩)) (by kernel_rfl) (by kernel_rfl) ?_;simp only[Act.put,pa,pb,pc];refine jt (by kernel_rfl) (jd (jZ SA.out)) ?_;simp only[Act.put,pa,pb,pc];refine jt (v:=.pointer (some ⟨GB,4,none⟩)) (by kernel_rfl) (by kernel_rfl) ?_;simp only[Act.put,pa,pb,pc];refine jt (by kernel_rfl) (jd (jZ HG.out.2.1)) ?_;simp only[Act.put,pa,pb,pc]
    go_wp2_with fail
    obtain⟨c1,hc1⟩:=je (zk x1 gq);rw[<-hc1] at CC1;refine(CC1.out _).mono ?_;rintro _ u_2 ⟨rfl,hb⟩;have fA:=jh (Nat.le_trans fA.out hb.size);have SA:=jh (Z4.later hb SA.out);have WC:=jh (Z4.later hb WC.out);have HS:=jh (HS.out.later hb);have HG:=jh (HG.out.later hb);have Z8:=jh (jj Z8.out hb);have HU:=jb hb HU;have HB:=jw HB hb;have HO:=jh (HO.out.later hb);clear hb
    by_cases hz3:gq<=x1
    ·have hc1I:(0:Int)<=c1:=by rw[hc1];unfold zk;split;omega;split<;>omega
     clear hc1
     go_upto_region 12 with fail
     refine wp_region_lit ?_;refine jL (.agg J5) ?_;refine jV rfl _ _ _ rfl UB _ _ _ HU.out rfl rfl (by rw[zi];rfl) rfl zW ?_;simp only[Act.put,pa,pb,pc];obtain⟨w9,e9⟩:=je (u_2.setRow UB J5);have L8:w9.heap[UB]?=some (.cells J5 33 (0,0)):=by rw[e9];exact setRow_heap _ _ _ _ _ _ HU.out
     have L6:Below w.heap.size w w9:=by rw[e9];exact below_setRow HB.out HUW.out _
     have bI:=jh L8;have fD:=jh L6;rw[<-e9];clear e9 L8 L6
     go_wp2_with fail
     refine bodyPost_ret (qv rfl _ w9 UB _ _ _ _ rfl bI.out underlying33 rfl (by rw[zi];rfl) (.bool false) rfl) rfl ⟨0,0,0,0,0,0,none,0,0,false,by rw[JX],(fun h=>by cases h),fD.out⟩
    have HZ3:=jh (show x1<gq by omega);have hc1I:¬(0:Int)<=c1:=by rw[hc1];unfold zk;rw[if_pos HZ3.out];decide
    clear hc1 hz3;have k0:=WC.out 0 (by decide);have k1:=WC.out 1 (by decide);have k2:=WC.out 2 (by decide);have k3:=WC.out 3 (by decide);have g0:=HG.out.2.1 0 (by decide);have g1:=HG.out.2.1 1 (by decide);have g2:=HG.out.2.1 2 (by decide);have g3:=HG.out.2.1 3 (by decide);simp only[Nat.reduceAdd] at k0 k1 k2 k3 g0 g1 g2 g3
    go_wp2_with fail
    clear k0 k1 k2 k3 g0 g1 g2 g3;obtain⟨c2,hc2⟩:=je (zk x2 gq);rw[<-hc2] at CC2;refine(CC2.out _).mono ?_;rintro _ u_3 ⟨rfl,hb⟩;have fA:=jh (Nat.le_trans fA.out hb.size);have SA:=jh (Z4.later hb SA.out);have WC:=jh (Z4.later hb WC.out);have HS:=jh (HS.out.later hb);have HG:=jh (HG.out.later hb);have Z8:=jh (jj Z8.out hb);have HU:=jb hb HU;have HB:=jw HB hb;have HO:=jh (HO.out.later hb);clear hb
    by_cases hz4:gq<=x2
    ·have hc2I:(0:Int)<=c2:=by rw[hc2];unfold zk;split;omega;split<;>omega
     clear hc2
     go_upto_region 12 with fail
     refine wp_region_lit ?_;refine jL (.agg J5) ?_;refine jV rfl _ _ _ rfl UB _ _ _ HU.out rfl rfl (by rw[zi];rfl) rfl zW ?_;simp only[Act.put,pa,pb,pc];obtain⟨w9,e9⟩:=je (u_3.setRow UB J5);have L8:w9.heap[UB]?=some (.cells J5 33 (0,0)):=by rw[e9];exact setRow_heap _ _ _ _ _ _ HU.out
     have L6:Below w.heap.size w w9:=by rw[e9];exact below_setRow HB.out HUW.out _
     have bI:=jh L8;have fD:=jh L6;rw[<-e9];clear e9 L8 L6
     go_wp2_with fail
     refine bodyPost_ret (qv rfl _ w9 UB _ _ _ _ rfl bI.out underlying33 rfl (by rw[zi];rfl) (.bool false) rfl) rfl ⟨0,0,0,0,0,0,none,0,0,false,by rw[JX],(fun h=>by cases h),fD.out⟩
    have HZ4:=jh (show x2<gq by omega);have hc2I:¬(0:Int)<=c2:=by rw[hc2];unfold zk;rw[if_pos HZ4.out];decide
    clear hc2 hz4
    go_upto_region 13 with fail
    clear hc1I hc2I CC1 CC2 HE1 HE2;obtain⟨A9,hA9⟩:=je (gg^x1%gp);have HA9:=jh hA9;have CA:=jh (fun W=>by have h9:=QU (gq:=gq) (gg:=gg) (gh:=h) (n:=x1) HMAY.out HGGm.out PZ.out HGP.out W;rewrite[<-hA9] at h9;unfold ji words at h9;exact h9);clear hA9;refine wp_region_lit ?_;refine jL _ ?_ (jd (qP HG.out));refine jL (jP GB 8) ?_;refine jL _ ?_ (jd (jZ HG.out.2.2.1));refine jL (jP KB 0) ?_;refine jL _ ?_ (jd (jZ SA.out))
    go_wp2_with fail
    refine(CA.out _).mono ?_;rintro _ u_4 ⟨rfl,hb⟩;have fA:=jh (Nat.le_trans fA.out hb.size);have SA:=jh (Z4.later hb SA.out);have WC:=jh (Z4.later hb WC.out);have HS:=jh (HS.out.later hb);have HG:=jh (HG.out.later hb);have Z8:=jh (jj Z8.out hb);have HU:=jb hb HU;have HB:=jw HB hb;have HO:=jh (HO.out.later hb);clear hb
    go_upto_region 14 with fail
    obtain⟨u_5,AB,e9,h9,hb⟩:=qJ u_4 (.cells (jD A9) 24);have HAB:=jh (show U0 u_5 AB A9 by rw[e9,h9];exact U0.new _ _ _ _ rfl);have LAB:=jh (show AB<u_5.heap.size by rw[e9,h9];simp);have WAB:=jh (show u_4.heap.size=AB from h9.symm);rw[<-e9,<-h9];clear e9 h9;have fA:=jh (Nat.le_trans fA.out hb.size);have SA:=jh (Z4.later hb SA.out);have WC:=jh (Z4.later hb WC.out);have HS:=jh (HS.out.later hb);have HG:=jh (HG.out.later hb);have Z8:=jh (jj Z8.out hb);have HU:=jb hb HU;have HB:=jw HB hb;have HO:=jh (HO.out.later hb);clear hb;clear CA
    by_cases hmh:Jt gp h
    ·obtain⟨B9,hB9⟩:=je (h^x2%gp);have fD:=jh hB9;have CB9:=jh (fun W=>by have h9:=QU (gq:=gq) (gg:=gg) (gh:=h) (n:=x2) hmh HHM.out OZ.out HGP.out W;rewrite[<-hB9] at h9;unfold ji words at h9;exact h9);clear hB9 hmh;refine wp_region_lit ?_;refine jL _ ?_ (jd (qP HG.out));refine jL (jP GB 12) ?_;refine jL _ ?_ (jd (jZ HG.out.2.2.2));refine jL (jP KB 4) ?_;refine jL _ ?_ (jd (jZ WC.out))
     go_wp2_with fail
     refine(CB9.out _).mono ?_;rintro _ u_6 ⟨rfl,hb⟩;have fA:=jh (Nat.le_trans fA.out hb.size);have SA:=jh (Z4.later hb SA.out);have WC:=jh (Z4.later hb WC.out);have HS:=jh (HS.out.later hb);have HG:=jh (HG.out.later hb);have Z8:=jh (jj Z8.out hb);have HU:=jb hb HU;have HB:=jw HB hb;have HO:=jh (HO.out.later hb);have HAB:=jn hb HAB;have LAB:=jl LAB hb.size;clear hb
     go_upto_region 15 with fail
     obtain⟨u_7,BB,e9,h9,hb⟩:=qJ u_6 (.cells (jD B9) 24);have X4:=jh (show U0 u_7 BB B9 by rw[e9,h9];exact U0.new _ _ _ _ rfl);have LBB:=jh (show BB<u_7.heap.size by rw[e9,h9];simp);have WBB:=jh (show u_6.heap.size=BB from h9.symm);rw[<-e9,<-h9];clear e9 h9;have fA:=jh (Nat.le_trans fA.out hb.size);have SA:=jh (Z4.later hb SA.out);have WC:=jh (Z4.later hb WC.out);have HS:=jh (HS.out.later hb);have HG:=jh (HG.out.later hb);have Z8:=jh (jj Z8.out hb);have HU:=jb hb HU;have HB:=jw HB hb;have HO:=jh (HO.out.later hb);have HAB:=jn hb HAB;have LAB:=jl LAB hb.size;clear hb
     go_upto_region 17 with fail
     clear CB9;clear SA WC;refine wp_region_lit ?_;refine jL (jP SB 18) ?_;refine jL (v) ?_ (jd (Qq HS.out.nd));refine jL _ ?_ (jd (zV HAB.out));refine jL _ ?_ (jd (zV X4.out));refine jL (.agg (jE A9 B9)) ?_;refine qq (v:=.slice (some ⟨u_7.heap.size,0,none⟩) 1 1) (w':=u_7.alloc (.cells #[.int .u64 (jg jf A9 0),.int .u64 (jg jf A9 1),.int .u64 (jg jf A9 2),.int .u64 (jg jf A9 3),.int .u64 (jg jf B9 0),.int .u64 (jg jf B9 1),.int .u64 (jg jf B9 2),.int .u64 (jg jf B9 3)] 88)) rfl (by kernel_rfl) ?_;simp only[Act.put,pa,pb,pc];clear HAB X4;obtain⟨u_8,PB,e9,h9,hb⟩:=qJ u_7 (.cells (jE A9 B9) 88);have EG:=jh (show u_8.heap[PB]?=some (.cells #[.int .u64 (jg jf A9 0),.int .u64 (jg jf A9 1),.int .u64 (jg jf A9 2),.int .u64 (jg jf A9 3),.int .u64 (jg jf B9 0),.int .u64 (jg jf B9 1),.int .u64 (jg jf B9 2),.int .u64 (jg jf B9 3)] 88 (0,0)) by rw[e9,h9];exact jQ);have LPB:=jh (show PB<u_8.heap.size by rw[e9,h9];simp);have WPB:=jh (show u_7.heap.size=PB from h9.symm);rw[<-e9,<-h9];clear e9 h9;have fA:=jh (Nat.le_trans fA.out hb.size);have HS:=jh (HS.out.later hb);have HG:=jh (HG.out.later hb);have Z8:=jh (jj Z8.out hb);have HU:=jb hb HU;have HB:=jw HB hb;have HO:=jh (HO.out.later hb);have LAB:=jl LAB hb.size;have LBB:=jl LBB hb.size;clear hb
     obtain⟨i0,hi0⟩:∃i,prog.info? 88=some i:=by have h9:=info_k9;cases hz:prog.info? 88 with
       |none=>rw[hz] at h9;cases h9
       |some i=>exact⟨i,rfl⟩
     have yO:(i0.zero,i0.size,i0.bytes)=(some (.agg (Array.replicate 8 (.int .u64 0))),8,64):=by have h9:=info_k9;rw[hi0] at h9;exact Option.some.inj h9
     have fF:=jh (show∀q,v.ownBlock=some q->SB1<=q from fun q hq=>(HO.out.lt q hq).1);refine JN rfl _ _ 31 rfl SB1 88 i0 _ 8 64 underlying31 hi0 (congrArg (·.1) yO) (congrArg (·.2.1) yO) (congrArg (·.2.2) yO) rfl v k _ (by kernel_rfl) HO.out _ 1 _ (by kernel_rfl) (src8 EG.out) (by have h8:=HLE.out;unfold maxLen;omega) (by have h8:=HLE.out;omega) fA.out ?_;intro v9 u_9 ho hgs;obtain⟨a9,c9,rfl⟩:=ho.shape9;clear hi0 yO EG LPB;have HO9:=jh ho;clear ho;simp only[Act.put,pa,pb,pc];clear HO;have HS:=jh (HS.out.keep hgs (fun e=>by have h7:=fF.out _ e.symm;have h8:=NE.out;omega));have HG:=jh (EI HG.out hgs (fun e=>by have h7:=fF.out _ e.symm;have h8:=NE.out;omega));have Z8:=jh (zF Z8.out hgs (fun e=>by have h7:=fF.out _ e.symm;have h8:=NE.out;omega));have HU:=jh (Jh HU.out hgs (fun e=>by have h7:=fF.out _ e.symm;have h8:=NE.out;omega));have HB:=jh (HB.out.grown hgs HB.out.size (fun q hq=>Nat.le_trans NE.out.2.2.2.2 (fF.out q hq)));have fA:=jh (Nat.le_trans fA.out hgs.size);have LAB:=jl LAB hgs.size;have LBB:=jl LBB hgs.size;clear hgs;have HO:=HO9;clear HO9 fF;have p18:=HS.out.nd;have q18:=HS.out.free 18 (by decide)
     go_wp2_with fail
     clear p18 q18;obtain⟨u_10,e9⟩:=je (u_9.setCell ⟨SB,18,none⟩ (.slice a9 (k+1) c9));have hgs:u_9.grownBy u_10 (some SB):=by rw[e9];exact jT (World.grownBy.refl _ _) 18 _
     have oU:=jh (show TA u_10 SB gp gq gg h fa se (.slice a9 (k+1) c9) by rw[e9];exact HS.out.set18 _);have HO9:=jh (HO.out.kept hgs (.inr (fun e=>by have h7:=(HO.out.lt _ e).1;have h8:=NE.out;omega)));rw[<-e9];clear e9 HS HO;clear LAB LBB;have HG:=jh (EI HG.out hgs (fun e=>by injection e with e;have h8:=NS.out;omega));have Z8:=jh (zF Z8.out hgs (fun e=>by injection e with e;have h8:=NS.out;omega));have HU:=jh (Jh HU.out hgs (fun e=>by injection e with e;have h8:=NS.out;omega));have HB:=jh (HB.out.grown hgs HB.out.size (fun q hq=>by injection hq with hq;have h8:=NS.out;omega));have fA:=jh (Nat.le_trans fA.out hgs.size);clear hgs;have HS:=oU;clear oU
     have HQ2:=jh (show∀j x,j<k+1->sk[j]?=some x->x.1≠0/\x.2≠0/\x.1<gq/\x.2<gq from fun j x hj hjx=>by
      rcases Nat.lt_or_ge j k with h9|h9
      ·exact HQK.out j x h9 hjx
      ·have e9:j=k:=by omega
       rw[e9,HXI.out] at hjx
       cases hjx
       exact⟨HZ1.out,HZ2.out,HZ3.out,HZ4.out⟩)
     have HO:=jh (show O1 u_10 SB1 88 8 (.slice a9 (k+1) c9) (k+1) (qo ((sk.take (k+1)).map (fun k:Nat×Nat=>(gg^k.1%gp,h^k.2%gp)))) by
      have e9:qo ((sk.take (k+1)).map (fun k:Nat×Nat=>(gg^k.1%gp,h^k.2%gp)))=qo ((sk.take k).map (fun k:Nat×Nat=>(gg^k.1%gp,h^k.2%gp)))++[.int .u64 (jg jf A9 0),.int .u64 (jg jf A9 1),.int .u64 (jg jf A9 2),.int .u64 (jg jf A9 3),.int .u64 (jg jf B9 0),.int .u64 (jg jf B9 1),.int .u64 (jg jf B9 2),.int .u64 (jg jf B9 3)]:=by
       rw[List.take_add_one,HXI.out,List.map_append];simp only[Option.toList_some,List.map_cons,List.map_nil];rw[nM,<-HA9.out,<-fD.out]
      rw[e9]
      exact HO9.out)
     clear HO9
     go_wp2_with fail
     go_roundw
     case rel=>exact⟨k+1,.slice a9 (k+1) c9,G7.out,by go_num,HQ2,HO,HS,HG,jh (by rw[HAO.out];exact Z8.out),HU,HB,fA⟩
     case measure=>simp[intOf];have:=G7.out;omega
    ·have CB9:=jh (fun W=>by have h9:=yS (gq:=gq) (gg:=gg) (gh:=h) (n:=x2) hmh HHM.out OZ.out HGP.out W;unfold ji words at h9;exact h9);clear hmh;refine wp_region_lit ?_;refine jL _ ?_ (jd (qP HG.out));refine jL (jP GB 12) ?_;refine jL _ ?_ (jd (jZ HG.out.2.2.2));refine jL (jP KB 4) ?_;refine jL _ ?_ (jd (jZ WC.out))
     go_wp2_with fail
     refine(CB9.out _).mono ?_;rintro _ u_6 ⟨rfl,hb⟩;have fA:=jh (Nat.le_trans fA.out hb.size);have SA:=jh (Z4.later hb SA.out);have WC:=jh (Z4.later hb WC.out);have HS:=jh (HS.out.later hb);have HG:=jh (HG.out.later hb);have Z8:=jh (jj Z8.out hb);have HU:=jb hb HU;have HB:=jw HB hb;have HO:=jh (HO.out.later hb);have HAB:=jn hb HAB;have LAB:=jl LAB hb.size;clear hb
     go_upto_region 15 with fail
     obtain⟨u_7,BB,e9,h9,hb⟩:=qJ u_6 (.cells #[.int .u64 (jg jf 0 0),.int .u64 (jg jf 0 1),.int .u64 (jg jf 0 2),.int .u64 (jg jf 0 3)] 24);have X4:=jh (show U0 u_7 BB 0 by rw[e9,h9];exact U0.new _ _ _ _ rfl);have LBB:=jh (show BB<u_7.heap.size by rw[e9,h9];simp);have WBB:=jh (show u_6.heap.size=BB from h9.symm);rw[<-e9,<-h9];clear e9 h9;have fA:=jh (Nat.le_trans fA.out hb.size);have SA:=jh (Z4.later hb SA.out);have WC:=jh (Z4.later hb WC.out);have HS:=jh (HS.out.later hb);have HG:=jh (HG.out.later hb);have Z8:=jh (jj Z8.out hb);have HU:=jb hb HU;have HB:=jw HB hb;have HO:=jh (HO.out.later hb);have HAB:=jn hb HAB;have LAB:=jl LAB hb.size;clear hb
     go_upto_region 16 with fail
     refine wp_region_lit ?_;refine jL (.agg J5) ?_;refine jV rfl _ _ _ rfl UB _ _ _ HU.out rfl rfl (by rw[zi];rfl) rfl zW ?_;simp only[Act.put,pa,pb,pc];obtain⟨w9,e9⟩:=je (u_7.setRow UB J5);have L8:w9.heap[UB]?=some (.cells J5 33 (0,0)):=by rw[e9];exact setRow_heap _ _ _ _ _ _ HU.out
     have L6:Below w.heap.size w w9:=by rw[e9];exact below_setRow HB.out HUW.out _
     have bI:=jh L8;have fD:=jh L6;rw[<-e9];clear e9 L8 L6
     go_wp2_with fail
     refine bodyPost_ret (qv rfl _ w9 UB _ _ _ _ rfl bI.out underlying33 rfl (by rw[zi];rfl) (.bool false) rfl) rfl ⟨0,0,0,0,0,0,none,0,0,false,by rw[JX],(fun h=>by cases h),fD.out⟩
   ·have hkn:k=n:=by omega
    rw[hkn] at HQK HO⊢;clear hkn hlt hk;have O6:¬(n:Int)<(n:Int):=by omega
    have q22:=Z8.out;obtain⟨a9,c9,rfl⟩:=HO.out.shape9;obtain⟨ks,hks⟩:=je (sk.map (fun k:Nat×Nat=>(gg^k.1%gp,h^k.2%gp)));have HKS:=jh hks;have HO:=jh (show O1 wr SB1 88 8 (.slice a9 n c9) n (qo ks) by have h9:=HO.out;rw[HN.out,List.take_length,<-hks,<-HN.out] at h9;exact h9);have hnk:n=ks.length:=by rw[hks,List.length_map];exact HN.out
    have BA:=jh hnk;obtain⟨ok,hok⟩:=je (qi gp gq gg h fa se n ks);have dI:=jh hok
    have CD:=jh (fun(W:World) (ho9:O1 W SB1 88 8 (.slice a9 n c9) n (qo ks))=>by
     have h9:=XH (gp:=gp) (gq:=gq) (gg:=gg) (gh:=h) (cap:=c9) (ao:=a9) (ks:=ks) (fun q hq=>by
      rw[hks] at hq;obtain⟨q0,_,rfl⟩:=List.mem_map.1 hq
      exact⟨Nat.lt_trans (Nat.mod_lt _ (by have:=HMAY.out.1;omega)) HGP.out,Nat.lt_trans (Nat.mod_lt _ (by have:=HMAY.out.1;omega)) HGP.out⟩) HGQ.out HGP.out HGGm.out HHM.out hnk HFA.out HSE.out (by have:=HLE.out;omega) W (fun h0=>by
       obtain⟨b,o,cap9,h1,h2⟩:=OD ho9 hnk h0;injection h1 with h1
       exact⟨b,o,h1,h2⟩)
     rewrite[<-hok] at h9;unfold zC at h9
     exact h9)
    clear hks hnk hok
    go_upto_region 18 with fail
    clear q22;refine jJ (.take 0 (.take 1 (.step 2 (.step 3 (.take 4 .done))))) (fun w8=>TA w8 SB gp gq gg h fa se (.slice a9 n c9)) (by kernel_rfl) (by kernel_rfl) (fun _ _ _ _ _ h=>h) (HS.out.later (U3.drew)) (fun hHeld=>?_);obtain⟨x1,e1⟩:=je (wr.drew);rw[<-e1];have hb:Below wr.heap.size wr x1:=by rw[e1];exact U3.drew
    have HO:=jh (HO.out.later hb);have HS:=jh (HS.out.later hb);have HU:=jb hb HU;have HB:=jw HB hb;clear hb e1
    iterate 2
     refine WT.take rfl (Or.inl ⟨by rfl,fun w8 hSw=>jd (Qr hSw)⟩) ?_
     try simp only[Act.put,pa,pb,pc]
    refine WT.step rfl (fun K hK=>?_)
    go_simp
    refine(CD.out _ HO.out).mono ?_;rintro _ x2 ⟨rfl,hb⟩;have HO:=jh (HO.out.later hb);have HS:=jh (HS.out.later hb);have HU:=jb hb HU;have HB:=jw HB hb;clear hb;refine qD hK (HS.out) (fun hHeld=>?_);clear hK K;refine WT.step rfl (fun K hK=>?_);refine DK (by kernel_rfl) _ _ _ rfl UB _ #[.int .u64 (jg jf gp 0),.int .u64 (jg jf gp 1),.int .u64 (jg jf gp 2),.int .u64 (jg jf gp 3),.int .u64 (jg jf gq 0),.int .u64 (jg jf gq 1),.int .u64 (jg jf gq 2),.int .u64 (jg jf gq 3),.int .u64 (jg jf gg 0),.int .u64 (jg jf gg 1),.int .u64 (jg jf gg 2),.int .u64 (jg jf gg 3),.int .u64 (jg jf h 0),.int .u64 (jg jf h 1),.int .u64 (jg jf h 2),.int .u64 (jg jf h 3),.int .i64 fa,.int .i64 se,.slice a9 n c9] _ HU.out (by kernel_rfl) (by kernel_rfl) (by rw[zi];rfl) rfl (by simp[Value.oneCell']) ?_;obtain⟨x3,e9⟩:=je (x2.setRow UB #[.int .u64 (jg jf gp 0),.int .u64 (jg jf gp 1),.int .u64 (jg jf gp 2),.int .u64 (jg jf gp 3),.int .u64 (jg jf gq 0),.int .u64 (jg jf gq 1),.int .u64 (jg jf gq 2),.int .u64 (jg jf gq 3),.int .u64 (jg jf gg 0),.int .u64 (jg jf gg 1),.int .u64 (jg jf gg 2),.int .u64 (jg jf gg 3),.int .u64 (jg jf h 0),.int .u64 (jg jf h 1),.int .u64 (jg jf h 2),.int .u64 (jg jf h 3),.int .i64 fa,.int .i64 se,.slice a9 n c9]);have hgs:x2.grownBy x3 (some UB):=by rw[e9];exact kS _ _ _
    have L8:x3.heap[UB]?=some (.cells #[.int .u64 (jg jf gp 0),.int .u64 (jg jf gp 1),.int .u64 (jg jf gp 2),.int .u64 (jg jf gp 3),.int .u64 (jg jf gq 0),.int .u64 (jg jf gq 1),.int .u64 (jg jf gq 2),.int .u64 (jg jf gq 3),.int .u64 (jg jf gg 0),.int .u64 (jg jf gg 1),.int .u64 (jg jf gg 2),.int .u64 (jg jf gg 3),.int .u64 (jg jf h 0),.int .u64 (jg jf h 1),.int .u64 (jg jf h 2),.int .u64 (jg jf h 3),.int .i64 fa,.int .i64 se,.slice a9 n c9] 33 (0,0)):=by rw[e9];exact setRow_heap _ _ _ _ _ _ HU.out
    have HU:=jh L8;have HB:=jh (show Below w.heap.size w x3 by rw[e9];exact below_setRow HB.out HUW.out _);rw[<-e9];clear e9 L8;have HS:=jh (HS.out.keep hgs (fun e=>by injection e with e;have h8:=NS.out;omega));have HO:=jh (HO.out.kept hgs (.inr (fun e=>by have h7:=(HO.out.lt _ e).1;have h8:=NE.out;omega)));clear hgs;refine qD hK (HS.out) (fun hHeld=>?_);clear hK K;refine jz ?_;refine WT.done ?_;clear hHeld;obtain⟨T9,hT9⟩:∃T9:Array Value,T9=#[.int .u64 (jg jf gp 0),.int .u64 (jg jf gp 1),.int .u64 (jg jf gp 2),.int .u64 (jg jf gp 3),.int .u64 (jg jf gq 0),.int .u64 (jg jf gq 1),.int .u64 (jg jf gq 2),.int .u64 (jg jf gq 3),.int .u64 (jg jf gg 0),.int .u64 (jg jf gg 1),.int .u64 (jg jf gg 2),.int .u64 (jg jf gg 3),.int .u64 (jg jf h 0),.int .u64 (jg jf h 1),.int .u64 (jg jf h 2),.int .u64 (jg jf h 3),.int .i64 fa,.int .i64 se,.slice a9 n c9]:=⟨_,rfl⟩;have hs9:(prog.info? 33).map (·.size)=some T9.size:=by rw[zi,hT9];rfl
    have L8:=HU.out;rw[<-hT9] at L8;have bI:=jh L8;have HT9:=jh hT9;clear L8 hT9
    go_wp2_with fail
    refine bodyPost_ret (qv rfl _ x3 UB _ _ _ _ rfl bI.out underlying33 rfl hs9 (.bool ok) rfl) rfl ⟨gp,gq,gg,h,fa,se,a9,n,c9,?_⟩
    cases ok with
    |false=>exact .inl ⟨by rw[HT9.out];rfl,HB.out⟩
    |true=>
     refine .inr ⟨by rw[HT9.out];rfl,⟨rfl,rfl,rfl,HHE.out,rfl,rfl,rfl,?_⟩,HB.out⟩
     exact⟨HMAY.out,HPR.out,HLOG.out,HLE.out,fun q hq=>by
       obtain⟨j,hj⟩:=List.mem_iff_getElem?.1 hq;exact HQK.out j q (by rw[HN.out];exact(List.getElem?_eq_some_iff.1 hj).1) hj,fun h0=>by
       obtain⟨b,o,cap9,h1,h2⟩:=OD HO.out BA.out h0;injection h1 with h1
       rw[HKS.out,HHE.out] at h2;exact⟨b,o,h1,h2⟩,by
       rw[<-HHE.out,<-HKS.out,<-dI.out]⟩
 ·go_upto_region 4 with fail
  refine wp_region_lit ?_;refine jL (.agg J5) ?_;refine jV rfl _ _ _ rfl UB _ _ _ HU.out rfl rfl (by rw[zi];rfl) rfl zW ?_;simp only[Act.put,pa,pb,pc];obtain⟨w9,e9⟩:=je (v_5.setRow UB J5);have L8:w9.heap[UB]?=some (.cells J5 33 (0,0)):=by rw[e9];exact setRow_heap _ _ _ _ _ _ HU.out
  have L6:Below w.heap.size w w9:=by rw[e9];exact below_setRow HB.out HUW.out _
  have bI:=jh L8;have fD:=jh L6;rw[<-e9];clear e9 L8 L6
  go_wp2_with fail
  refine bodyPost_ret (qv rfl _ w9 UB _ _ _ _ rfl bI.out underlying33 rfl (by rw[zi];rfl) (.bool false) rfl) rfl ⟨0,0,0,0,0,0,none,0,0,false,by rw[JX],(fun h=>by cases h),fD.out⟩
end Go.Proofs.YtpkalgofejjggaaGreatDoor
