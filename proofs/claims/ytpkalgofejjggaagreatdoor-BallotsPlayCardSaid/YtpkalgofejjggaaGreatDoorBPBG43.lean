/- Layer 22's reference (ballots) -/
import Derived.Test.YtpkalgofejjggaaGreatDoorBPBG42
import Derived.Test.YtpkalgofejjggaaGreatDoorBPBG38
set_option linter.unusedSimpArgs false
set_option linter.unusedVariables false
set_option maxHeartbeats 2000000
set_option maxRecDepth 20000
namespace Go.Proofs.YtpkalgofejjggaaGreatDoor
open Go.ChangeShapes Go.WideShapes Go.ChangeAt Go.RowKit Go.Proofs.Tryz
theorem RBNew_any{gp gq gg gh n cap kb ko ep:Nat}{fa se:Int}{ks:List (Nat×Nat)}(vv:Bal.Bv->List Value)(st:StOk gp gq gg gh n fa se ks)(h0:0<n)(w:World)(hk:Y4 w kb ko ks):
  Calls prog 8 #[zC gp gq gg gh fa se (.slice (some ⟨kb,ko,none⟩) n cap),.int .u64 ep] w fun r w'=>∃rb,r=.returned (.tuple #[.pointer (some ⟨rb,0,none⟩),.int .i64 0])/\A7 w' rb gp gq gg gh n cap kb ko ep w'.heap.size fa se ks vv [] (.slice none 0 0)/\w.heap.size<=rb/\Below w.heap.size w w':=by
 have hn7:=st.hn7;have CD:=jh (fun(W:World) (hk9:Y4 W kb ko ks)=>by have h9:=MH (cap:=cap) (ao:=some ⟨kb,ko,none⟩) st.hx st.hq st.hm st.hgg st.hgh st.hn st.hfa st.hse (by omega) W (fun _=>⟨kb,ko,rfl,hk9⟩);rw[st.ok] at h9;unfold zC at h9;exact h9);have HLK:=jh st.hn;have HK:=jh hk;have H0:=jh h0;clear hk st hn7 h0;unfold zC
 go_enter func8,ntmps8
 go_upto_region 1 with fail
 obtain⟨V8,SB,e9,h9,hb⟩:=qJ w (.cells #[.int .u64 (jg jf gp 0),.int .u64 (jg jf gp 1),.int .u64 (jg jf gp 2),.int .u64 (jg jf gp 3),.int .u64 (jg jf gq 0),.int .u64 (jg jf gq 1),.int .u64 (jg jf gq 2),.int .u64 (jg jf gq 3),.int .u64 (jg jf gg 0),.int .u64 (jg jf gg 1),.int .u64 (jg jf gg 2),.int .u64 (jg jf gg 3),.int .u64 (jg jf gh 0),.int .u64 (jg jf gh 1),.int .u64 (jg jf gh 2),.int .u64 (jg jf gh 3),.int .i64 fa,.int .i64 se,.slice (some ⟨kb,ko,none⟩) n cap] 33);have HB:=jh hb;have HS:=jh (show TA V8 SB gp gq gg gh fa se (.slice (some ⟨kb,ko,none⟩) n cap) by rw[e9,h9];exact TA.new _ _ _ _ _ _ _ _ _);rw[<-e9,<-h9];clear e9 h9;clear hb;have HK:=jh (HK.out.later HB.out);refine wp_region_lit ?_;refine jL (.agg #[.int .u64 (jg jf gp 0),.int .u64 (jg jf gp 1),.int .u64 (jg jf gp 2),.int .u64 (jg jf gp 3),.int .u64 (jg jf gq 0),.int .u64 (jg jf gq 1),.int .u64 (jg jf gq 2),.int .u64 (jg jf gq 3),.int .u64 (jg jf gg 0),.int .u64 (jg jf gg 1),.int .u64 (jg jf gg 2),.int .u64 (jg jf gg 3),.int .u64 (jg jf gh 0),.int .u64 (jg jf gh 1),.int .u64 (jg jf gh 2),.int .u64 (jg jf gh 3),.int .i64 fa,.int .i64 se,.slice (some ⟨kb,ko,none⟩) n cap]) ?_ (jd (Qr HS.out))
 go_wp2_with fail
 refine(CD.out _ HK.out).mono ?_;rintro _ v_1 ⟨rfl,hb⟩;have HS:=jh (HS.out.later hb);have HB:=jw HB hb;have HK:=jh (HK.out.later hb);clear hb
 go_upto_region 3 with fail
 refine wp_region_lit ?_;refine jL (.agg #[.int .u64 (jg jf gp 0),.int .u64 (jg jf gp 1),.int .u64 (jg jf gp 2),.int .u64 (jg jf gp 3),.int .u64 (jg jf gq 0),.int .u64 (jg jf gq 1),.int .u64 (jg jf gq 2),.int .u64 (jg jf gq 3),.int .u64 (jg jf gg 0),.int .u64 (jg jf gg 1),.int .u64 (jg jf gg 2),.int .u64 (jg jf gg 3),.int .u64 (jg jf gh 0),.int .u64 (jg jf gh 1),.int .u64 (jg jf gh 2),.int .u64 (jg jf gh 3),.int .i64 fa,.int .i64 se,.slice (some ⟨kb,ko,none⟩) n cap]) ?_ (jd (Qr HS.out))
 go_wp2_with fail
 go_ret2
 obtain⟨x5,e9⟩:=je (v_1.alloc (.cells #[.int .u64 (jg jf gp 0),.int .u64 (jg jf gp 1),.int .u64 (jg jf gp 2),.int .u64 (jg jf gp 3),.int .u64 (jg jf gq 0),.int .u64 (jg jf gq 1),.int .u64 (jg jf gq 2),.int .u64 (jg jf gq 3),.int .u64 (jg jf gg 0),.int .u64 (jg jf gg 1),.int .u64 (jg jf gg 2),.int .u64 (jg jf gg 3),.int .u64 (jg jf gh 0),.int .u64 (jg jf gh 1),.int .u64 (jg jf gh 2),.int .u64 (jg jf gh 3),.int .i64 fa,.int .i64 se,.slice (some ⟨kb,ko,none⟩) n cap,.int .u64 ep,.slice none 0 0] 97));have pX:=heap_alloc_new v_1 (.cells #[.int .u64 (jg jf gp 0),.int .u64 (jg jf gp 1),.int .u64 (jg jf gp 2),.int .u64 (jg jf gp 3),.int .u64 (jg jf gq 0),.int .u64 (jg jf gq 1),.int .u64 (jg jf gq 2),.int .u64 (jg jf gq 3),.int .u64 (jg jf gg 0),.int .u64 (jg jf gg 1),.int .u64 (jg jf gg 2),.int .u64 (jg jf gg 3),.int .u64 (jg jf gh 0),.int .u64 (jg jf gh 1),.int .u64 (jg jf gh 2),.int .u64 (jg jf gh 3),.int .i64 fa,.int .i64 se,.slice (some ⟨kb,ko,none⟩) n cap,.int .u64 ep,.slice none 0 0] 97);rw[<-e9] at pX;have hb:=jc e9;rw[<-e9];clear e9;have hc:=fun(o:Nat) (u:Value) (hu:(#[.int .u64 (jg jf gp 0),.int .u64 (jg jf gp 1),.int .u64 (jg jf gp 2),.int .u64 (jg jf gp 3),.int .u64 (jg jf gq 0),.int .u64 (jg jf gq 1),.int .u64 (jg jf gq 2),.int .u64 (jg jf gq 3),.int .u64 (jg jf gg 0),.int .u64 (jg jf gg 1),.int .u64 (jg jf gg 2),.int .u64 (jg jf gg 3),.int .u64 (jg jf gh 0),.int .u64 (jg jf gh 1),.int .u64 (jg jf gh 2),.int .u64 (jg jf gh 3),.int .i64 fa,.int .i64 se,.slice (some ⟨kb,ko,none⟩) n cap,.int .u64 ep,.slice none 0 0]:Array Value)[o]?=some u)=>(cell_of_row x5 v_1.heap.size o _ _ (0,0) pX).trans hu
 refine⟨v_1.heap.size,rfl,⟨⟨bF fun j u hj=>?_,hc 16 _ rfl,hc 17 _ rfl,hc 18 _ rfl,fun j _=>by simp[World.frozen?,pX]⟩,hc 19 _ rfl,hc 20 _ rfl,⟨rfl,.inl ⟨rfl,rfl⟩⟩,by simp[World.frozen?,pX],HK.out.later hb,⟨(J6.1 pX).1,?_,?_⟩,Nat.le_refl _⟩,HB.out.size,jm HB.out hb⟩
 ·rw[cell_of_row _ _ _ _ _ _ pX];have hl:=(List.getElem?_eq_some_iff.1 hj).1;simp only[List.length_cons,List.length_nil] at hl
  rcases(show j=0∨j=1∨j=2∨j=3∨j=4∨j=5∨j=6∨j=7∨j=8∨j=9∨j=10∨j=11∨j=12∨j=13∨j=14∨j=15 by omega) with rfl|rfl|rfl|rfl|rfl|rfl|rfl|rfl|rfl|rfl|rfl|rfl|rfl|rfl|rfl|rfl<;>exact hj
 ·have:=zs HK.out H0.out HLK.out;have:=hb.size;omega
 ·have:=zs HK.out H0.out HLK.out;omega
end Go.Proofs.YtpkalgofejjggaaGreatDoor
