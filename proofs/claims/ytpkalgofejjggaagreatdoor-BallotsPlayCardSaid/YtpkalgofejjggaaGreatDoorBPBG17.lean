/- Layer 5 (shas) -/
import Derived.Test.YtpkalgofejjggaaGreatDoorBPBG16
import Derived.Deep.LoopGhost
set_option linter.unusedSimpArgs false
set_option linter.unusedVariables false
set_option maxHeartbeats 3000000
set_option maxRecDepth 20000
namespace Go.Proofs.YtpkalgofejjggaaGreatDoor
open Go.ChangeShapes Go.WideShapes Go.ChangeAt Go.RowKit Go.Proofs.Tryz
theorem IU{w:World}{g o cap:Nat}{l:List Nat}(hk:F7 .u8 w (.slice (some ⟨g,o,none⟩) l.length cap) l)(n:Nat)(hn:n<=l.length):
  ∃o' c,(∀W,(Instr.sliceAt 138 (.slice (some ⟨g,o,none⟩) l.length cap) (some (.int .i64 n)) none none).run prog W=.ok (.slice (some ⟨g,o',none⟩) (l.length-n) c) W)/\F7 .u8 w (.slice (some ⟨g,o',none⟩) (l.length-n) c) (l.drop n):=by
 obtain⟨a,c,h1,h2⟩:=bY hk n hn;obtain⟨ao,cap9,e,h3,h4,_⟩:=hk
 cases e
 have hrun:∀W,(Instr.sliceAt 138 (.slice (some ⟨g,o,none⟩) l.length cap) (some (.int .i64 n)) none none).run prog W=.ok (sliced (some ⟨g,o,none⟩) n l.length cap 1) W:=fun W=>by
  rw[run_sliceAt_slice _ _ _ _ _ _ dQ,run_slice_l _ _ _ _ _ dQ .i64 n (by omega) (by omega),sizeB]
  simp
 have h9:=(hrun w).symm.trans (h1 w);unfold sliced at h9
 have h8:∃o',a=some ⟨g,o',none⟩:=by
  injection h9 with h9
  injection h9 with h9 _ _
  rw[<-h9]
  split
  ·exact⟨o,rfl⟩
  ·exact⟨o+n,by simp[Addr.add_lit]⟩
 obtain⟨o',rfl⟩:=h8;exact⟨o',c,h1,h2⟩
theorem slice_arr(S p:Nat)(hp:p<64)(W:World):(Instr.sliceAt 329 (.pointer (some ⟨S,9,none⟩)) (some (.int .i64 p)) none none).run prog W=.ok (.slice (some ⟨S,9+p,none⟩) (64-p) (64-p)) W:=by
 have e1:prog.arrayLen 329=64:=by kernel_rfl
 have e2:prog.elem 329=5:=by kernel_rfl
 have e3:(sizeOf (prog.elem 329)).run prog W=.ok 1 W:=by
  rw[e2]
  go_simp
 rw[run_sliceAt_array_l W _ _ (by kernel_rfl) .i64 p (by omega) (by rw[e1];omega),e3];unfold slicedAt;simp only[e1];rw[show((p:Int)).toNat=p from Int.toNat_natCast p]
 show Result.ok _ W=_
 rw[if_neg (by omega)]
 simp[Addr.add_lit]
theorem ZX{w:World}{ops:Array Oper}{rest:List Oper}{o:Oper}{a:Act}{Q:Exit->Act->World->Prop}(hgd:o.guard=none)(d s:Operand)(ho:o.op=.call {callee:=.builtin .copy,args:=#[d,s],argTypes:=#[138,138]})
  {S N p m cap n:Nat} {st:S8} {R c:List Nat} {gb ob:Nat} (hraw:G5 w S st R N) (hp:p<64) (hd:a.eval d=.slice (some ⟨S,9+p,none⟩) (64-p) (64-p)) (hs:a.eval s=.slice (some ⟨gb,ob,none⟩) m cap)
  (hn:n=min m (64-p)) (hc:c.length=n) (hcell:∀i x:Nat,c[i]?=some x->w.cell? ⟨gb,ob+i,none⟩=some (.int .u8 x))
  (h:∀w',G5 w' S st (splice R p c) N->w.grownBy w' (some S)->wpList prog ops Q rest (a.put o.dst (.int .i64 n)) w'):wpList prog ops Q (o::rest) a w:=by
 have h64:=hraw.1;refine wpList_copy_own hgd d s _ _ ho 5 underlying138 (by kernel_rfl) S (9+p) (64-p) (64-p) ⟨gb,ob,none⟩ m cap hd hs _ _ hraw.2 (jo .u8 c) ?_ ?_ ?_ (Jx _ _) ?_
 ·rw[js,hc,hn]
 ·intro j v hv;rw[qC] at hv;obtain⟨x,hx,rfl⟩:=Option.map_eq_some_iff.1 hv;rw[Addr.add_mid];exact hcell j x hx
 ·rw[js,hc]
  simp[Zd,h64];try omega
 ·have h9:=h _ (hraw.copy p c (by omega)) ⟨rfl,rfl,rfl,by simp[World.setRow],fun k _ hk=>setRow_other w S k _ (fun e=>hk (by rw[e]))⟩;rw[js,hc] at h9⊢;exact h9
theorem jT{a w:World}{B:Nat}(h:a.grownBy w (some B))(c:Nat)(v:Value):a.grownBy (w.setCell ⟨B,c,none⟩ v) (some B):=
 ⟨h.os,h.tape,h.output,by simpa using h.size,fun k hk hne=>(heap_setCell_other w ⟨B,c,none⟩ k v (fun e=>hne (by rw[e]))).trans (h.block k hk hne)⟩
theorem qG{a w w':World}{row:Option Nat}(h:a.grownBy w row)(hb:Below w.heap.size w w'):a.grownBy w' row:=
 ⟨hb.os.trans h.os,hb.tape.trans h.tape,hb.output.trans h.output,Nat.le_trans h.size hb.size,fun k hk hne=>(hb.block k (jv hk h.size)).trans (h.block k hk hne)⟩
theorem JV{a w w':World}{row:Option Nat}(h:a.grownBy w row)(h':w.grownBy w' row):a.grownBy w' row:=
 ⟨h'.os.trans h.os,h'.tape.trans h.tape,h'.output.trans h.output,Nat.le_trans h.size h'.size,fun k hk hne=>(h'.block k (jv hk h.size) hne).trans (h.block k hk hne)⟩
theorem info_rest:(prog.info? 329).map (·.size)=some 64:=by kernel_rfl
theorem G5.loadR{w:World}{S:Nat}{st:S8}{R:List Nat}{n:Nat}(h:G5 w S st R n):(Instr.loadAt 329 (.pointer (some ⟨S,9,none⟩))).run prog w=.ok (.agg (jo .u8 R).toArray) w:=
 run_loadAt_mid w S 9 _ _ _ h.range underlying329 rfl (by rw[info_rest,js,h.1])
theorem pK{S:Nat}{l b:List Nat}{v:Value}(w:World)(hs:X8 w S l)(hv:F7 .u8 w v b)(hne:b≠[]->v.ownBlock≠some S)(hb:qk b)(hsz:l.length+b.length<=1099511627776):
  Calls prog 268 #[.pointer (some ⟨S,0,none⟩),v] w fun e w'=>e=.returned (.tuple #[])/\X8 w' S (l++b)/\w.grownBy w' (some S):=by
 have HS:=jh hs;have HV:=jh hv;have fF:=jh hne;have HB:=jh hb;have HZ:=jh hsz;clear hs hv hne hb hsz
 go_enter func268,ntmps268
 go_wp2_with fail
 go_loopg [1] b.length (fun g v wr=>∃d r:List Nat,b=d++r/\g=r.length/\Hid (F7 .u8 wr v r)/\Hid (r≠[]->v.ownBlock≠some S)/\Hid (X8 wr S (l++d))/\Hid (w.grownBy wr (some S)))
 case atStart=>exact⟨[],b,rfl,rfl,HV,fF,jh (by rw[List.append_nil];exact HS.out),jh (World.grownBy.refl _ _)⟩
 case round=>
  clear HS HV fF;obtain⟨d,r,hbd,S9,HV,fF,HS,HG⟩:=hrel;have fU:=jh hbd;clear hbd;obtain⟨ao,cap,hv9,h1,h2,h3,h4⟩:=HV.out
  cases hv9
  obtain⟨m,hm⟩:=je (r.length);have HM:=jh hm;rw[<-hm] at h1 h4 HV fF S9;rw[<-hm]
  rcases Nat.eq_zero_or_pos m with hm0|hmp
  ·subst hm0
   go_wp2_with fail
   have e0:r=[]:=List.eq_nil_of_length_eq_zero (by rw[<-HM.out])
   go_end0
   exact⟨rfl,by rw[fU.out,e0,List.append_nil];exact HS.out,HG.out⟩
  ·obtain⟨gb,o,rfl,h5⟩:=h4 hmp;have hmI:(0:Int)<(m:Int):=by omega
   have HR0:=jh (show r≠[] from fun e=>by have h9:=HM.out;rw[e] at h9;simp only[List.length_nil] at h9;omega);obtain⟨R,hraw,hR,htk⟩:=HS.out;obtain⟨N,hN⟩:=je ((l++d).length);obtain⟨p,hp⟩:=je (N%64);have hp64:p<64:=by omega
   have hpI:(N:Int)%64=(p:Int):=by omega
   obtain⟨q,hq⟩:=je (N/64);rw[<-hN,<-hq] at hraw;rw[<-hN,<-hp,<-hq] at htk;have FN:=jh hraw;have mD:=jh hR;have HTK:=jh htk;have c73:=hraw.many;have HN:=jh hN;have HP:=jh hp;have HQ:=jh hq;have H5:=jh h5;have hNb:N<=1099511627776:=by rw[hN];have h8:=HZ.out;rw[fU.out] at h8;simp only[List.length_append] at h8⊢;omega
   clear hraw hR htk h3 h4 h5 hN hp hq hm;obtain⟨n,hn⟩:=je (min m (64-p));have D6:=jh hn;have hsl:=fun W=>slice_arr S p hp64 W
   have hkv:F7 .u8 wr (.slice (some ⟨gb,o,none⟩) r.length cap) r:=by rw[<-HM.out];exact HV.out
   obtain⟨o',c',hsf,hkf⟩:=IU hkv n (by rw[<-HM.out];omega);rw[<-HM.out] at hsf hkf;have HKF:=jh hkf
   have HGB:=jh (show gb<wr.heap.size from(by
    obtain⟨x9,iC⟩:∃x,r[0]?=some x:=⟨_,Jd (by rw[<-HM.out];exact hmp)⟩
    exact World.block_lt_of_cell? (a:=⟨gb,o+0,none⟩) _ (H5.out 0 x9 iC)))
   obtain⟨N2,hN2⟩:=je (N+n);have hN2I:(N:Int)+(n:Int)=(N2:Int):=by omega
   have WC:=jh hN2;have hnI:(n:Int)<=64:=by omega
   have hnm:(n:Int)<=(m:Int):=by omega
   have hCL:(r.take n).length=n:=by rw[List.length_take,<-HM.out];omega
   have I5:=jh hCL;have HP64:=jh hp64
   have HCE:=jh (show∀i x:Nat,(r.take n)[i]?=some x->wr.cell? ⟨gb,o+i,none⟩=some (.int .u8 x) from fun i x hx=>by
    rw[List.getElem?_take] at hx
    split at hx
    ·exact H5.out i x hx
    ·cases hx)
   clear hkf hkv hCL hN2
   by_cases he:p+n=64
   ·have heI:(p:Int)+(n:Int)=64:=by omega
    have HE:=jh he;clear he hn hp64
    go_wp2_with (refine ZX rfl (.tmp 19) (.tmp 20) rfl FN.out HP64.out rfl rfl D6.out I5.out HCE.out ?_;intro w1 hr1 hg1;have HR1:=jh hr1;have HG1:=jh hg1;have c73:=hr1.many;have f73:=hr1.free 73;clear hr1 hg1)
    obtain⟨R2,hR2⟩:=je (splice R p (r.take n));rw[<-hR2] at HR1;have HR2:=jh hR2;obtain⟨w2,e2⟩:=je (w1.setCell ⟨S,73,none⟩ (.int .u64 N2));have HRW:=jh (show G5 w2 S (GK (l++d) q) R2 N2 by rw[e2];exact HR1.out.setMany N2);have HGW:=jh (show wr.grownBy w2 (some S) by rw[e2];exact jT HG1.out 73 _);rw[<-e2];clear e2 c73 f73 hR2;obtain⟨st,hst⟩:=je (GK (l++d) q);rw[<-hst] at HRW;have HST:=jh hst;obtain⟨z,hz⟩:=je (takeB st R2);have HZZ:=jh hz
    have CT:=jh (fun W=>by
     have h9:=take_any (s:=st) (b:=R2) (by rw[hst];exact KQ _ _) (by rw[HR2.out];exact ZF mD.out (fun x hx=>HB.out x (by rw[fU.out];exact List.mem_append_right _ (List.take_subset _ _ hx)))) HRW.out.1 W;rw[<-hz] at h9;unfold S8.val at h9
     exact h9)
    clear hst hz;obtain⟨za,zb,zc,zd,ze,zf,zg,zh⟩:=z;refine jK [(0,true),(1,true),(2,true),(3,true),(5,true),(6,true),(7,true),(8,true),(4,false),(9,false),(10,true),(11,true),(12,false)] (fun w8=>∃s9,G5 w8 S s9 R2 N2) (by kernel_rfl) (by kernel_rfl) (fun _ _ _ _ _ h=>h) (⟨_,HRW.out⟩) (fun hHeld=>?_)
    iterate 7
     refine jq ?_
    refine jx (.agg (jo .u8 R2).toArray) rfl (fun w8 hSw=>by obtain⟨s9,h9⟩:=hSw;exact jd h9.loadR) ?_;refine WP.step rfl (fun K hK=>?_);obtain⟨k1,k2,k3,k4,k5,k6,k7,k8⟩:=(show G5 w2.drew S st R2 N2 from HRW.out).now8
    go_simp
    refine qD hK (⟨_,HRW.out⟩) (fun hHeld=>?_);clear hK K;refine WP.step rfl (fun K hK=>?_);clear k1 k2 k3 k4 k5 k6 k7 k8
    go_simp
    refine(CT.out _).mono ?_;rintro _ w5 ⟨rfl,hb⟩;have lK:=jh (G5.later (show G5 w2.drew S st R2 N2 from HRW.out) hb);have nK:=jh (qG (show wr.grownBy w2.drew (some S) from⟨HGW.out.os,HGW.out.tape,HGW.out.output,HGW.out.size,HGW.out.block⟩) hb);clear hb;refine qD hK (⟨_,lK.out⟩) (fun hHeld=>?_);clear hK K;refine jq ?_;refine jq ?_;refine WP.step rfl (fun K hK=>?_);obtain⟨k1,k2,k3,k4,k5,k6,k7,k8⟩:=lK.out.now8;have g1:=lK.out.free 1;have g2:=lK.out.free 2;have g3:=lK.out.free 3;have g4:=lK.out.free 4;have g5:=lK.out.free 5;have g6:=lK.out.free 6;have g7:=lK.out.free 7;have g8:=lK.out.free 8
    go_simp
    refine qD hK (⟨_,lK.out.setNow _ _ _ _ _ _ _ _⟩) (fun hHeld=>?_);clear hK K;refine WP.done ?_
    go_wp2_with fail
    have SH:=jh (jT (jT (jT (jT (jT (jT (jT (jT nK.out 1 (.int .u32 za)) 2 (.int .u32 zb)) 3 (.int .u32 zc)) 4 (.int .u32 zd)) 5 (.int .u32 ze)) 6 (.int .u32 zf)) 7 (.int .u32 zg)) 8 (.int .u32 zh))
    have oU:=jh (X8.full (l:=l++d) (c:=r.take n) (by
     have h9:=lK.out.setNow za zb zc zd ze zf zg zh;rw[HZZ.out,HST.out,WC.out,HR2.out,HQ.out,HP.out,HN.out] at h9;rw[I5.out]
     exact h9) FN.out.1 mD.out (fun x hx=>HB.out x (by rw[fU.out];exact List.mem_append_right _ (List.take_subset _ _ hx))) (by have h9:=HTK.out;rw[HQ.out,HP.out,HN.out] at h9;exact h9) (by rw[I5.out,<-HN.out,<-HP.out];exact HE.out))
    clear k1 k2 k3 k4 k5 k6 k7 k8 g1 g2 g3 g4 g5 g6 g7 g8
    go_roundg (m-n)
    case measure=>have h8:=D6.out;have h9:=HP64.out;omega
    case rel=>exact⟨d++r.take n,r.drop n,by rw[List.append_assoc,List.take_append_drop];exact fU.out,by rw[List.length_drop,<-HM.out],jh (HKF.out.block fun g9 S9=>by
     have e9:gb=g9:=by injection S9
     have h7:g9≠S:=fun e=>fF.out HR0.out (by rw[<-e,<-e9];rfl)
     exact SH.out.block g9 (by rw[<-e9];exact HGB.out) (fun e=>h7 (by injection e))),jh (fun _ e=>fF.out HR0.out (by rw[<-e];rfl)),jh (by rw[<-List.append_assoc];exact oU.out),jh (JV HG.out SH.out)⟩
   ·have heI:¬(p:Int)+(n:Int)=64:=by omega
    have HE:=jh (show p+n<64 by omega);clear he hn hp64
    go_wp2_with (refine ZX rfl (.tmp 19) (.tmp 20) rfl FN.out HP64.out rfl rfl D6.out I5.out HCE.out ?_;intro w1 hr1 hg1;have HR1:=jh hr1;have HG1:=jh hg1;have c73:=hr1.many;have f73:=hr1.free 73;clear hr1 hg1)
    have SH:=jh (jT HG1.out 73 (.int .u64 N2))
    have oU:=jh (X8.part (l:=l++d) (c:=r.take n) (by
     have h9:=HR1.out.setMany N2;rw[HQ.out,HP.out] at h9;rw[I5.out,<-HN.out,<-WC.out]
     exact h9) FN.out.1 mD.out (fun x hx=>HB.out x (by rw[fU.out];exact List.mem_append_right _ (List.take_subset _ _ hx))) (by have h9:=HTK.out;rw[HQ.out,HP.out,HN.out] at h9;exact h9) (by rw[I5.out,<-HN.out,<-HP.out];exact HE.out))
    clear c73 f73
    go_roundg (m-n)
    case measure=>have h8:=D6.out;have h9:=HP64.out;omega
    case rel=>exact⟨d++r.take n,r.drop n,by rw[List.append_assoc,List.take_append_drop];exact fU.out,by rw[List.length_drop,<-HM.out],jh (HKF.out.block fun g9 S9=>by
     have e9:gb=g9:=by injection S9
     have h7:g9≠S:=fun e=>fF.out HR0.out (by rw[<-e,<-e9];rfl)
     exact SH.out.block g9 (by rw[<-e9];exact HGB.out) (fun e=>h7 (by injection e))),jh (fun _ e=>fF.out HR0.out (by rw[<-e];rfl)),jh (by rw[<-List.append_assoc];exact oU.out),jh (JV HG.out SH.out)⟩
theorem New_any(w:World):Calls prog 229 #[] w fun e w'=>∃S,e=.returned (.pointer (some ⟨S,0,none⟩))/\w.heap.size<=S/\X8 w' S []/\Below w.heap.size w w':=by
 obtain⟨V,hV⟩:=je (EC.val);have HC:=jh (fun w=>begin_any w);rw[<-hV] at HC;have HV:=jh hV;clear hV
 go_enter func229,ntmps229
 go_upto_region 1 with fail
 refine wp_region_lit ?_
 go_wp2_with fail
 refine(HC.out _).mono ?_;rintro _ w2 ⟨rfl,hb⟩;have HB:=jh hb;clear hb;rw[HV.out];dsimp only
 rename_i hK9
 refine hK9 _ _ ?_;clear hK9;refine jL (.agg (lF EC (List.replicate 64 0) 0).toArray) ?_;obtain⟨T,hT⟩:=je ((lF EC (List.replicate 64 0) 0).toArray);have HT:=jh hT;rw[<-hT];clear hT
 go_wp2_with fail
 go_ret
 refine⟨w2.heap.size,rfl,HB.out.size,⟨List.replicate 64 0,⟨rfl,?_⟩,fun x hx=>by rw[List.eq_of_mem_replicate hx];decide,rfl⟩,jm HB.out (ja)⟩;rw[heap_alloc_new,HT.out]
 rfl
theorem eF{S:Nat}{l b:List Nat}{v:Value}(w:World)(hs:X8 w S l)(hv:F7 .u8 w v b)(hne:b≠[]->v.ownBlock≠some S)(hb:qk b)(hsz:l.length+b.length<=1099511627776):
  Calls prog 230 #[.pointer (some ⟨S,0,none⟩),v] w fun e w'=>e=.returned (.int .i64 0)/\X8 w' S (l++b)/\w.grownBy w' (some S):=by
 have CW:=jh (pK w hs hv hne hb hsz);obtain⟨R,hraw,_⟩:=hs;have c0:=hraw.made;clear hraw hv hne hb hsz
 go_enter func230,ntmps230
 go_wp2_with fail
 refine CW.out.mono ?_;rintro _ w2 ⟨rfl,hs2,hg2⟩;clear c0;have HS2:=jh hs2;have HG2:=jh hg2;clear hs2 hg2
 go_wp2_with fail
 go_ret
 exact⟨rfl,HS2.out,HG2.out⟩
end Go.Proofs.YtpkalgofejjggaaGreatDoor
