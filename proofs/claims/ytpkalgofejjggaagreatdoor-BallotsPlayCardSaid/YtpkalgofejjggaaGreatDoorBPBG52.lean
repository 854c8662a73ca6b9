/- SameVotes, of votes that are the same -/
import Derived.Test.YtpkalgofejjggaaGreatDoorBPBG37
set_option linter.unusedSimpArgs false
set_option linter.unusedVariables false
set_option maxHeartbeats 2000000
set_option maxRecDepth 20000
namespace Go.Proofs.YtpkalgofejjggaaGreatDoor
open Go.ChangeShapes Go.WideShapes Go.ChangeAt Go.RowKit Go.Proofs.Tryz
theorem Zo{P:Program}{d:Nat}{L:Array Value}{w:World}:∀(fs:List Field),(∀f∈fs,f.name≠ "_" ∧∃a,(part f.type L f.offset).run P w=.ok a w∧(Op.equalIn d f.type a a).run P w=.ok true w)→(Op.eqFields d L L fs).run P w=.ok true w
 |[],_=>by simp[Op.eqFields]
 |f::fs,h=>by
  obtain⟨hn,a,h1,h2⟩:=h f (by simp);have ih:=Zo fs (fun g hg=>h g (List.mem_cons_of_mem _ hg));simp only[Op.eqFields,if_pos hn,Sem.run_bind,h1,h2,Result.andThen_ok,Bool.not_true,Bool.false_eq_true,if_false,ih]
theorem uN{P:Program}{d len:Nat}{t e:TypeId}{k:IntKind}{xs:Array Value}(w:World)(ht:P.underlying t=some (.array len e))(he:P.underlying e=some (.int k))(hagg:∀w,(isAgg e).run P w=.ok false w)(hsz:∀w,(sizeOf e).run P w=.ok 1 w)(f:Nat->Int)(hx:∀i,i<len->xs[i]?=some (.int k (f i))):
  (Op.equalIn (d+2) t (.agg xs) (.agg xs)).run P w=.ok true w:=by
 rw[Je w d t e k len ht he hagg hsz xs xs f f hx hx]
 simp
theorem gY:(prog.fieldsOf 69).toList.map (fun f=>(f.name != "_",f.type,f.offset))=[(true,24,0),(true,24,4)]:=by kernel_rfl
theorem sig_self(c s:Nat)(w:World):(Op.equalIn 9999 69 (.agg (PG c s).toArray) (.agg (PG c s).toArray)).run prog w=.ok true w:=by
 rw[show(9999:Nat)=9998+1 from rfl,run_equalIn_struct w 9998 _ _ _ (by kernel_rfl) (by kernel_rfl)];refine Zo _ fun f hf=>?_
 have hm:=List.mem_map_of_mem (f:=fun f:Field=>(f.name != "_",f.type,f.offset)) hf;rw[gY] at hm;simp only[List.mem_cons,List.not_mem_nil,or_false,Prod.mk.injEq,bne_iff_ne,ne_eq] at hm
 rcases hm with⟨h1,h2,h3⟩|⟨h1,h2,h3⟩
 ·refine⟨h1,.agg #[.int .u64 (jg jf c 0),.int .u64 (jg jf c 1),.int .u64 (jg jf c 2),.int .u64 (jg jf c 3)],?_,?_⟩
  ·rw[h2,h3]
   kernel_rfl
  ·rw[h2];exact uN w underlying24 underlying22 (fun _=>by kernel_rfl) (fun _=>by kernel_rfl) (fun i=>jg jf c i) (JP _)
 ·refine⟨h1,.agg #[.int .u64 (jg jf s 0),.int .u64 (jg jf s 1),.int .u64 (jg jf s 2),.int .u64 (jg jf s 3)],?_,?_⟩
  ·rw[h2,h3]
   kernel_rfl
  ·rw[h2];exact uN w underlying24 underlying22 (fun _=>by kernel_rfl) (fun _=>by kernel_rfl) (fun i=>jg jf s i) (JP _)
theorem xU:(prog.fieldsOf 71).toList.map (fun f=>(f.name != "_",f.type,f.offset))=[(true,64,0),(true,22,1),(true,65,2),(true,5,3),(true,67,4),(true,69,36)]:=by kernel_rfl
theorem UE{t off:Nat}{L:List Value}{v:Value}(w:World)(ha:(isAgg t).run prog w=.ok false w)(hv:L[off]?=some v):(part t L.toArray off).run prog w=.ok v w:=by
 unfold part
 simp[ha,Result.andThen,hv]
theorem aV{t off n:Nat}{L:List Value}(w:World)(ha:(isAgg t).run prog w=.ok true w)(hs:(sizeOf t).run prog w=.ok n w):(part t L.toArray off).run prog w=.ok (.agg (L.toArray.extract off (off+n))) w:=by
 unfold part
 simp[ha,hs,Result.andThen]
theorem yU(k e v n c s:Nat){h:List Nat}(hl:h.length=32):(jM k e v n h c s).toArray.extract 4 (4+32)=(jo .u8 h).toArray/\(jM k e v n h c s).toArray.extract 36 (36+8)=(PG c s).toArray:=by
 have hc:(jo .u8 h).length=32:=by simp[js,hl]
 have hs:(PG c s).length=8:=by simp[PG]
 have e1:jM k e v n h c s=.int .u8 k::.int .u64 e::.int .u32 v::.int .u8 n::(jo .u8 h++PG c s):=by simp[jM]
 rw[e1]
 constructor
 ·rw[List.extract_toArray,List.extract_eq_take_drop];simp only[List.drop_succ_cons,List.drop_zero,Nat.add_sub_cancel_left];rw[List.take_left' hc]
 ·rw[List.extract_toArray,List.extract_eq_take_drop];simp only[List.drop_succ_cons,Nat.add_sub_cancel_left];rw[List.drop_left' hc,List.take_of_length_le (by omega)]
theorem vote_self(k e v n c s:Nat)(t:Bal.H32)(w:World):(Op.equalIn 10000 71 (.agg (jM k e v n (hsL t) c s).toArray) (.agg (jM k e v n (hsL t) c s).toArray)).run prog w=.ok true w:=by
 rw[show(10000:Nat)=9999+1 from rfl,run_equalIn_struct w 9999 _ _ _ (by kernel_rfl) (by kernel_rfl)];refine Zo _ fun f hf=>?_
 have hm:=List.mem_map_of_mem (f:=fun f:Field=>(f.name != "_",f.type,f.offset)) hf;rw[xU] at hm;simp only[List.mem_cons,List.not_mem_nil,or_false,Prod.mk.injEq,bne_iff_ne,ne_eq] at hm
 rcases hm with⟨h1,h2,h3⟩|⟨h1,h2,h3⟩|⟨h1,h2,h3⟩|⟨h1,h2,h3⟩|⟨h1,h2,h3⟩|⟨h1,h2,h3⟩
 ·refine⟨h1,.int .u8 k,by rw[h2,h3];exact UE w (by kernel_rfl) rfl,?_⟩;rw[h2,show(9999:Nat)=9998+1 from rfl,run_equalIn_int w 9998 _ .u8 .u8 _ _ underlying64]
  simp
 ·refine⟨h1,.int .u64 e,by rw[h2,h3];exact UE w (by kernel_rfl) rfl,?_⟩;rw[h2,show(9999:Nat)=9998+1 from rfl,run_equalIn_int w 9998 _ .u64 .u64 _ _ underlying22]
  simp
 ·refine⟨h1,.int .u32 v,by rw[h2,h3];exact UE w (by kernel_rfl) rfl,?_⟩;rw[h2,show(9999:Nat)=9998+1 from rfl,run_equalIn_int w 9998 _ .u32 .u32 _ _ underlying65]
  simp
 ·refine⟨h1,.int .u8 n,by rw[h2,h3];exact UE w (by kernel_rfl) rfl,?_⟩;rw[h2,show(9999:Nat)=9998+1 from rfl,run_equalIn_int w 9998 _ .u8 .u8 _ _ underlying5]
  simp
 ·refine⟨h1,.agg (jo .u8 (hsL t)).toArray,by rw[h2,h3,aV (n:=32) w (by kernel_rfl) (by kernel_rfl),(yU k e v n c s (qt t)).1],?_⟩;rw[h2];exact uN w underlying67 underlying5 (fun _=>by kernel_rfl) (fun _=>by kernel_rfl) _ (UR t)
 ·refine⟨h1,.agg (PG c s).toArray,by rw[h2,h3,aV (n:=8) w (by kernel_rfl) (by kernel_rfl),(yU k e v n c s (qt t)).2],?_⟩;rw[h2];exact sig_self c s w
theorem neq_vote(ep:Nat)(C S:Bal.Bv->Nat)(x:Bal.Bv)(w:World):(binOp .neq 71 (.agg (qS ep C S x).toArray) (.agg (qS ep C S x).toArray)).run prog w=.ok (.bool false) w:=by
 rw[run_neq_struct];have h9:=vote_self x.k ep x.v x.n (C x) (S x) x.s w;rw[show qS ep C S x=jM x.k ep x.v x.n (hsL x.s) (C x) (S x) from rfl,h9]
 rfl
theorem eqg_vote:prog.eqGuardType prog.depth 71=false:=by kernel_rfl
theorem same_any{ep B1 B2 n:Nat}{C S:Bal.Bv->Nat}{u v:Value}{l:List Bal.Bv}(hn:n=l.length)(h1000:n<=10000)(w:World)(hu:O1 w B1 71 44 u n (l.flatMap (qS ep C S)))(hv:O1 w B2 71 44 v n (l.flatMap (qS ep C S))):
  Calls prog 12 #[u,v] w fun r w'=>r=.returned (.bool true)/\Below w.heap.size w w':=by
 obtain⟨ua,uc,rfl⟩:=hu.shape9;obtain⟨va,vc,rfl⟩:=hv.shape9;have HU:=jh hu;have HV:=jh hv;have HN:=jh hn;have hnI:(n:Int)<=10000:=by omega
 clear hu hv hn h1000
 go_enter func12,ntmps12
 go_wp2_with fail
 go_loopw [5] (fun i wr=>∃j:Nat,j<=n/\i=.int .i64 j/\Hid (Below w.heap.size w wr)) (fun i _=>n-(intOf i).toNat)
 case atStart=>exact⟨0,Nat.zero_le _,rfl,jh U3⟩
 case round=>
  obtain⟨j,hj,rfl,HW⟩:=hrel
  by_cases hlt:j<n
  ·have O6:(j:Int)<(n:Int):=by omega
   have hjI:(0:Int)<=(j:Int):=by omega
   obtain⟨x,hx⟩:∃x,l[j]?=some x:=⟨_,Jd (by have:=HN.out;omega)⟩;obtain⟨ub,uo,uc9,hue,hva⟩:=Qa HU.out (by omega);obtain⟨vb,vo,vc9,hve,hvb⟩:=Qa HV.out (by omega);injection hue with hue _ _
   subst hue;injection hve with hve _ _
   subst hve;have hb:=HW.out.trans (Below.drew (Below.refl w.heap.size wr));have LU:=jh (ju (hva.at (ql _ _ _) hx) hb);have LV:=jh (ju (hvb.at (ql _ _ _) hx) hb);have fF:=jh (fun(W:World)=>neq_vote ep C S x W);obtain⟨L,hL⟩:=je (qS ep C S x);rw[<-hL] at LU LV fF;have aO:=jh (show L.length=44 by rw[hL];exact ql _ _ _ _);have G7:=jh hlt;clear hx hva hvb hb hL hlt hj
   go_upto_region 6 with fail
   refine jK [(0,true),(1,true),(2,true),(3,true),(4,true),(5,true),(6,true),(7,true),(8,true)] (fun w8=>w8.rangeAt ub (uo+j*44) L/\w8.rangeAt vb (vo+j*44) L) (by kernel_rfl) (by kernel_rfl) (fun _ _ _ _ _ h=>h) (⟨LU.out,LV.out⟩) (fun hHeld=>?_);refine jq ?_;refine jq ?_;refine jx (jP ub (uo+j*44)) rfl (fun w8 hSw=>by simp[go_sem,O6,hjI]) ?_;refine jx (.agg L.toArray) rfl (fun w8 hSw=>jd (NP hSw.1 aO.out)) ?_;refine jq ?_;refine jq ?_;refine jx (jP vb (vo+j*44)) rfl (fun w8 hSw=>by simp[go_sem,O6,hjI]) ?_;refine jx (.agg L.toArray) rfl (fun w8 hSw=>jd (NP hSw.2 aO.out)) ?_;refine jx (.bool false) rfl (fun w8 hSw=>qB eqg_vote rfl (by kernel_rfl) (by kernel_rfl) (fF.out _)) ?_;refine WP.done ?_;clear hHeld
   go_wp2_with fail
   go_roundw
   case rel=>exact⟨j+1,G7.out,by go_num,jh (HW.out.drew)⟩
   case measure=>simp[intOf];have:=G7.out;omega
  ·obtain rfl:j=n:=by omega
   clear hlt
   go_wp2_with fail
   go_ret
   exact⟨rfl,HW.out⟩
end Go.Proofs.YtpkalgofejjggaaGreatDoor
