/- Layer 22 (ballots) -/
import Derived.Test.YtpkalgofejjggaaGreatDoorBPBG35
import Derived.Deep.Cut
set_option linter.unusedSimpArgs false
set_option linter.unusedVariables false
set_option maxHeartbeats 4000000
set_option maxRecDepth 100000
namespace Go.Proofs.YtpkalgofejjggaaGreatDoor
open Go.ChangeShapes Go.WideShapes Go.ChangeAt Go.RowKit Go.Proofs.Tryz
def Qn(D:List Int):List Value:=D.map (fun x=>Value.int .i64 x)
theorem Jg{D:List Int}{j:Nat}{x:Int}(h:D[j]?=some x):(Qn D)[j]?=some (.int .i64 x):=by simp[Qn,h]
theorem rH(D:List Int)(j:Nat)(x:Int):(Qn D).set j (.int .i64 x)=Qn (D.set j x):=by simp[Qn,List.map_set]
theorem zZ{w w1 w2:World}{r:Option Nat}(h:w.grownBy w1 r)(h2:w1.grownBy w2 r):w.grownBy w2 r:=⟨h2.os.trans h.os,h2.tape.trans h.tape,h2.output.trans h.output,Nat.le_trans h.size h2.size,fun k hk hne=>(h2.block k (jv hk h.size) hne).trans (h.block k hk hne)⟩
theorem Qs{w w1:World}(r:Option Nat)(h:Below w.heap.size w w1):w.grownBy w1 r:=⟨h.os,h.tape,h.output,h.size,fun k hk _=>h.block k hk⟩
theorem XE{w:World}{b o:Nat}{v:Value}(h:w.cell? ⟨b,o,none⟩=some v):(Instr.loadAt 2 (.pointer (some ⟨b,o,none⟩))).run prog w=.ok v w:=by
 simp[go_sem,h]
theorem nan_any(x:Int)(w:World):Calls prog 263 #[.int .i64 x] w fun e w'=>e=.returned (.bool false)/\w=w':=by
 have h1:(x != x)=false:=by simp
 go_enter func263,ntmps263
 go_wp2
 go_ret
 exact⟨rfl,rfl⟩
theorem less_any(x y:Int)(w:World):Calls prog 217 #[.int .i64 x,.int .i64 y] w fun e w'=>e=.returned (.bool (decide (x<y)))/\Below w.heap.size w w':=by
 obtain⟨d,hd⟩:=je (decide (x<y));have hd2:decide (x<y)=d:=hd.symm;rw[<-hd];clear hd
 go_enter func217,ntmps217
 go_wp2_with (first|(go_at_call 263;refine(nan_any _ _).mono ?_;rintro _ _ ⟨rfl,rfl⟩))
 go_ret
 exact⟨by simp[hd2],U3⟩
theorem isort_any{base g o cap n:Nat}{F:List Int}(hn:n=F.length)(h1:1<=n)(h7:n<=12)(w:World)(h:O1 w base 2 1 (.slice (some ⟨g,o,none⟩) n cap) n (Qn F)):
  Calls prog 211 #[.slice (some ⟨g,o,none⟩) n cap,.int .i64 0,.int .i64 n] w fun e w'=>(∃v,e=.returned v)/\(∃D:List Int,O1 w' base 2 1 (.slice (some ⟨g,o,none⟩) n cap) n (Qn D)/\D.Perm F/\D.Pairwise (· <= ·))/\w.grownBy w' (some g):=by
 have HN:=jh hn;have H1:=jh h1;have HO:=jh h;have hnI:(n:Int)<=12:=by omega
 clear hn h
 go_enter func211,ntmps211
 go_wp2_with fail
 go_loopw [6] (fun i wr=>∃p:Nat,1<=p/\p<=n/\i=.int .i64 p/\∃D:List Int,Hid (O1 wr base 2 1 (.slice (some ⟨g,o,none⟩) n cap) n (Qn D))/\Hid (D.Perm F)/\Hid (w.grownBy wr (some g))/\Hid (Srt.Upto D p)) (fun i _=>n-(intOf i).toNat)
 case atStart=>exact⟨1,Nat.le_refl _,H1.out,rfl,F,HO,jh (List.Perm.refl _),jh (World.grownBy.refl _ _),jh (Srt.upto_one F)⟩
 case round=>
  obtain⟨p,hp1,hpn,rfl,D,HD,HP,HG,HU⟩:=hrel;obtain⟨wo,rfl⟩:∃wo:World,wo=wr:=⟨_,rfl⟩
  by_cases hlt:p<n
  ·have O6:(p:Int)<(n:Int):=by omega
   have G7:=jh (And.intro hp1 hlt);clear hlt hpn
   go_wp2_with fail
   go_loopw [7] (fun i wr=>∃q:Nat,q<=p/\i=.int .i64 q/\∃D:List Int,Hid (O1 wr base 2 1 (.slice (some ⟨g,o,none⟩) n cap) n (Qn D))/\Hid (D.Perm F)/\Hid (w.grownBy wr (some g))/\Hid (Srt.Almost D p q)) (fun i _=>(intOf i).toNat)
   case atStart=>exact⟨p,Nat.le_refl _,rfl,D,HD,HP,HG,jh (Srt.almost_start HU.out)⟩
   case round=>
    obtain⟨q,hqp,rfl,D2,HD2,HP2,HG2,HA2⟩:=hrel;have HQP:=jh hqp;have hql:q<D2.length:=by have e1:=HP2.out.length_eq;have e2:=HN.out;have e3:=G7.out;omega
    obtain⟨a,ha⟩:∃a,D2[q]?=some a:=⟨_,List.getElem?_eq_getElem hql⟩;have HQL:=jh hql;have V3:=jh ha;clear ha hql hqp
    by_cases hq0:q=0
    ·subst hq0
     go_upto_region 4 with fail
     refine jK [(0,true),(1,true),(2,true),(3,true),(4,true),(5,true),(6,true),(7,true),(8,true),(9,true),(10,true),(11,true),(12,true),(13,false),(14,true)] (fun w8=>O1 w8 base 2 1 (.slice (some ⟨g,o,none⟩) n cap) n (Qn D2)) (by kernel_rfl) (by kernel_rfl) (fun _ _ _ _ _ h=>h) (O1.later HD2.out (U3.drew)) (fun hHeld=>?_);refine jq ?_;refine jq ?_;refine jx (.bool false) rfl (fun w8 hSw=>by simp[go_sem]) ?_;refine jq ?_
     iterate 9
      refine jR ?_
     refine WP.step rfl (fun K hK=>?_);refine zp (by rfl) ?_;refine qD hK (hHeld) (fun hHeld=>?_);clear hK K;refine jq ?_;refine WP.done ?_;clear hHeld
     go_wp2_with fail
     go_roundw
     case rel=>exact⟨p+1,by omega,G7.out.2,by go_num,D2,jh (O1.later HD2.out (U3.drew)),HP2,jh (zZ HG2.out (Qs _ (U3.drew))),jh (Srt.almost_end V3.out HQP.out (.inl rfl) HA2.out)⟩
     case measure=>simp[intOf];have:=G7.out;omega
    ·have hq1:0<q:=by omega
     have hq1I:(0:Int)<(q:Int):=by omega
     have hqnI:(q:Int)<(n:Int):=by have:=G7.out;have:=HQP.out;omega
     obtain⟨b,hb⟩:∃b,D2[q-1]?=some b:=⟨_,Jd (by have:=HQL.out;omega)⟩;have X4:=jh hb;have E1:((q:Int)-1)=((q-1:Nat):Int):=by omega
     have E2:IntKind.i64.wrap ((q:Int)-1)=((q-1:Nat):Int):=by rw[E1];simp[IntKind.wrap,IntKind.bits,IntKind.signed];omega
     have hq1n:((q-1:Nat):Int)<(n:Int):=by omega
     have HQ1:=jh hq1;have CL:=jh (fun(W:World)=>less_any a b W);clear hb hq0;have HE2:=jh E2
     go_upto_region 4 with fail
     refine jJ (.take 0 (.take 1 (.take 2 (.take 3 (.take 4 (.take 5 (.take 6 (.take 7 (.take 8 (.take 9 (.take 10 (.take 11 (.take 12 (.step 13 (.take 14 .done))))))))))))))) (fun w8=>O1 w8 base 2 1 (.slice (some ⟨g,o,none⟩) n cap) n (Qn D2)) (by kernel_rfl) (by kernel_rfl) (fun _ _ _ _ _ h=>h) (O1.later HD2.out (U3.drew)) (fun hHeld=>?_);refine jz ?_;refine jz ?_;refine jH (.bool true) rfl (fun w8 hSw=>by simp[go_sem,hq1]) ?_
     iterate 3
      refine jz ?_
     refine jH (jP g (o+q)) rfl (fun w8 hSw=>by simp[go_sem,hqnI]) ?_;refine jH (.int .i64 a) rfl (fun w8 hSw=>jd (XE (O1.cell9 hSw (Jg V3.out)))) ?_;refine jz ?_;refine jz ?_;refine jH (.int .i64 ((q-1:Nat):Int)) rfl (fun w8 hSw=>by have e9:=HE2.out;simp[go_sem,e9]) ?_;refine jH (jP g (o+(q-1))) rfl (fun w8 hSw=>by simp[go_sem,hq1n]) ?_;refine jH (.int .i64 b) rfl (fun w8 hSw=>jd (XE (O1.cell9 hSw (Jg X4.out)))) ?_;refine WT.step rfl (fun K hK=>?_)
     go_simp
     refine(CL.out _).mono ?_;rintro _ x2 ⟨rfl,hb⟩;have HD3:=jh (O1.later (O1.later HD2.out (U3.drew)) hb);have HB3:=jh (Qs (some g) (jm ((Below.refl wr.heap.size wr).drew) hb));clear hb;refine qD hK (HD3.out) (fun hHeld=>?_);clear hK K;refine jz ?_;refine WT.done ?_;clear hHeld
     by_cases hab:a<b
     ·rw[decide_eq_true hab];have HAB:=jh hab;clear hab
      go_upto_region 6 with fail
      refine jJ (.take 0 (.take 1 (.take 2 (.take 3 (.take 4 (.take 5 (.take 6 (.take 7 (.take 8 (.take 10 (.take 11 (.take 12 (.fork 9 (.step 13 (.take 14 (.step 15 (.take 16 (.step 17 .done))))) 13 (.step 9 (.take 14 (.step 15 (.take 16 (.step 17 .done)))))))))))))))))) (fun w8=>True) (by kernel_rfl) (by kernel_rfl) (fun _ _ _ _ _ h=>h) (trivial) (fun hHeld=>?_);obtain⟨x4,e4⟩:=je (x2.drew);have HD4:=jh (show O1 x4 base 2 1 (.slice (some ⟨g,o,none⟩) n cap) n (Qn D2) by rw[e4];exact O1.later HD3.out (U3.drew));have HB4:=jh (show wr.grownBy x4 (some g) by rw[e4];exact zZ HB3.out (Qs _ (U3.drew)));rw[<-e4];clear e4
      iterate 4
       refine jz ?_
      refine jH (.int .i64 ((q-1:Nat):Int)) rfl (fun w8 hSw=>by have e9:=HE2.out;simp[go_sem,e9]) ?_
      iterate 2
       refine jz ?_
      refine jH (.int .i64 ((q-1:Nat):Int)) rfl (fun w8 hSw=>by have e9:=HE2.out;simp[go_sem,e9]) ?_;refine jH (jP g (o+(q-1))) rfl (fun w8 hSw=>by simp[go_sem,hq1n]) ?_
      iterate 2
       refine jz ?_
      refine jH (jP g (o+q)) rfl (fun w8 hSw=>by simp[go_sem,hqnI]) ?_;refine WT.fork rfl rfl (fun K hK=>?_) (fun K hK=>?_);rotate_left
      focus
       refine Qg (v:=.int .i64 a) (by rfl) (jd (XE (O1.cell9 HD4.out (Jg V3.out)))) ?_;refine qD hK (trivial) (fun hHeld=>?_);clear hK K;refine WT.step rfl (fun K hK=>?_);refine Qg (v:=.int .i64 b) (by rfl) (jd (XE (O1.cell9 HD4.out (Jg X4.out)))) ?_;refine qD hK (trivial) (fun hHeld=>?_);clear hK K;refine jH (jP g (o+q)) rfl (fun w8 hSw=>by simp[go_sem,hqnI]) ?_;refine WT.step rfl (fun K hK=>?_);have c0:=O1.cell9 HD4.out (Jg V3.out);have f0:=O1.thaw9 HD4.out (o+q)
       go_simp
       clear c0 f0;have HD5:=jh (O1.put9 HD4.out (j:=q) (.int .i64 b));rw[rH] at HD5;have nK:=jh (Jq x4 g (o+q) (.int .i64 b));obtain⟨x5,e5⟩:=je (x4.setCell ⟨g,o+q,none⟩ (.int .i64 b));rw[<-e5] at HD5 nK⊢;clear e5;refine qD hK (trivial) (fun hHeld=>?_);clear hK K;refine jH (jP g (o+(q-1))) rfl (fun w8 hSw=>by simp[go_sem,hq1n]) ?_;refine WT.step rfl (fun K hK=>?_);obtain⟨c9,wX⟩:∃c9,(D2.set q b)[q-1]?=some c9:=⟨_,Jd (by have:=HQL.out;simp;omega)⟩;have c0:=O1.cell9 HD5.out (Jg wX);have f0:=O1.thaw9 HD5.out (o+(q-1))
       go_simp
       clear c0 f0 wX;have HD6:=jh (O1.put9 HD5.out (j:=q-1) (.int .i64 a));rw[rH] at HD6;have IX:=jh (zZ nK.out (Jq x5 g (o+(q-1)) (.int .i64 a)));obtain⟨x6,e6⟩:=je (x5.setCell ⟨g,o+(q-1),none⟩ (.int .i64 a));rw[<-e6] at HD6 IX⊢;clear e6;refine qD hK (trivial) (fun hHeld=>?_);clear hK K;refine WT.done ?_
      rotate_right
      focus
       refine Qg (v:=.int .i64 b) (by rfl) (jd (XE (O1.cell9 HD4.out (Jg X4.out)))) ?_;refine qD hK (trivial) (fun hHeld=>?_);clear hK K;refine WT.step rfl (fun K hK=>?_);refine Qg (v:=.int .i64 a) (by rfl) (jd (XE (O1.cell9 HD4.out (Jg V3.out)))) ?_;refine qD hK (trivial) (fun hHeld=>?_);clear hK K;refine jH (jP g (o+q)) rfl (fun w8 hSw=>by simp[go_sem,hqnI]) ?_;refine WT.step rfl (fun K hK=>?_);have c0:=O1.cell9 HD4.out (Jg V3.out);have f0:=O1.thaw9 HD4.out (o+q)
       go_simp
       clear c0 f0;have HD5:=jh (O1.put9 HD4.out (j:=q) (.int .i64 b));rw[rH] at HD5;have nK:=jh (Jq x4 g (o+q) (.int .i64 b));obtain⟨x5,e5⟩:=je (x4.setCell ⟨g,o+q,none⟩ (.int .i64 b));rw[<-e5] at HD5 nK⊢;clear e5;refine qD hK (trivial) (fun hHeld=>?_);clear hK K;refine jH (jP g (o+(q-1))) rfl (fun w8 hSw=>by simp[go_sem,hq1n]) ?_;refine WT.step rfl (fun K hK=>?_);obtain⟨c9,wX⟩:∃c9,(D2.set q b)[q-1]?=some c9:=⟨_,Jd (by have:=HQL.out;simp;omega)⟩;have c0:=O1.cell9 HD5.out (Jg wX);have f0:=O1.thaw9 HD5.out (o+(q-1))
       go_simp
       clear c0 f0 wX;have HD6:=jh (O1.put9 HD5.out (j:=q-1) (.int .i64 a));rw[rH] at HD6;have IX:=jh (zZ nK.out (Jq x5 g (o+(q-1)) (.int .i64 a)));obtain⟨x6,e6⟩:=je (x5.setCell ⟨g,o+(q-1),none⟩ (.int .i64 a));rw[<-e6] at HD6 IX⊢;clear e6;refine qD hK (trivial) (fun hHeld=>?_);clear hK K;refine WT.done ?_
      all_goals(
       clear hHeld
       go_wp2_with fail
       go_roundw
       case rel=>exact⟨q-1,by have:=HQP.out;omega,by go_num,Srt.swap D2 q a b,HD6,jh ((Srt.swap_perm V3.out X4.out).trans HP2.out),jh (zZ HG2.out (zZ HB4.out IX.out)),jh (Srt.almost_swap HQ1.out HQP.out (by have e1:=HP2.out.length_eq;have e2:=HN.out;have e3:=G7.out;omega) V3.out X4.out HAB.out HA2.out)⟩
       case measure=>simp[intOf];have:=HQ1.out;omega)
     ·rw[decide_eq_false hab];have HAB:=jh (show b<=a by omega);clear hab
      go_wp2_with fail
      go_roundw
      case rel=>exact⟨p+1,by omega,G7.out.2,by go_num,D2,HD3,HP2,jh (zZ HG2.out HB3.out),jh (Srt.almost_end V3.out HQP.out (.inr ⟨b,X4.out,HAB.out⟩) HA2.out)⟩
      case measure=>simp[intOf];have:=G7.out;omega
  ·obtain rfl:p=n:=by omega
   clear hlt
   go_wp2_with fail
   go_end0
   exact⟨⟨_,rfl⟩,⟨D,HD.out,HP.out,Srt.upto_sorted (by have e1:=HP.out.length_eq;have e2:=HN.out;rw[e1,<-e2];exact HU.out)⟩,HG.out⟩
attribute [local go_sem] Oper.semAt_some
theorem pdq_any{base g o cap n:Nat}{F:List Int}{lim:Int}(hn:n=F.length)(h1:1<=n)(h7:n<=12)(w:World)(h:O1 w base 2 1 (.slice (some ⟨g,o,none⟩) n cap) n (Qn F)):
  Calls prog 180 #[.slice (some ⟨g,o,none⟩) n cap,.int .i64 0,.int .i64 n,.int .i64 lim] w fun e w'=>(∃v,e=.returned v)/\(∃D:List Int,O1 w' base 2 1 (.slice (some ⟨g,o,none⟩) n cap) n (Qn D)/\D.Perm F/\D.Pairwise (· <= ·))/\w.grownBy w' (some g):=by
 have CI:=jh (isort_any hn h1 h7 w h);have hnI:(n:Int)<=12:=by omega
 clear h hn h1
 go_enter func180,ntmps180
 go_wp2_with fail
 go_loopw [1,2] (fun a b wr=>a=.int .i64 0/\b=.int .i64 n/\wr=w) (fun _ _ _=>0)
 case atStart=>exact⟨rfl,rfl,rfl⟩
 case round=>
  obtain⟨rfl,rfl,rfl⟩:=hrel
  go_wp2_with (first|(go_at_call 211;refine CI.out.mono ?_;rintro _ w2 ⟨⟨v,rfl⟩,hd,hg⟩;have HD:=jh hd;have HG:=jh hg;clear hd hg))
  exact bodyPost_ret (results_none rfl _ _ _) rfl ⟨⟨_,rfl⟩,HD.out,HG.out⟩
theorem len_any{n:Nat}(hn:n<=12)(w:World):Calls prog 181 #[.int .u64 n] w fun e w'=>(∃r:Int,e=.returned (.int .i64 r))/\w=w':=by
 have CL:=jh (fun(W:World)=>Tryz.bits_Len64 (n:Int) W (by omega) (by omega));have hw:IntKind.u64.wrap (n:Int)=(n:Int):=by simp[IntKind.wrap,IntKind.bits,IntKind.signed];omega
 obtain⟨r,hr⟩:∃r:Int,r=Lib.bitLen (n:Int).toNat:=⟨_,rfl⟩;rw[<-hr] at CL;clear hr
 go_enter func181,ntmps181
 go_wp2_with (first|(go_at_call 205;refine(CL.out _).mono ?_;rintro _ _ ⟨rfl,aC⟩;subst aC))
 go_ret
 exact⟨⟨_,rfl⟩,rfl⟩
theorem sort_any{base g o cap n:Nat}{F:List Int}(hn:n=F.length)(h1:1<=n)(h7:n<=12)(w:World)(h:O1 w base 2 1 (.slice (some ⟨g,o,none⟩) n cap) n (Qn F)):
  Calls prog 110 #[.slice (some ⟨g,o,none⟩) n cap] w fun e w'=>(∃v,e=.returned v)/\(∃D:List Int,O1 w' base 2 1 (.slice (some ⟨g,o,none⟩) n cap) n (Qn D)/\D.Perm F/\D.Pairwise (· <= ·))/\w.grownBy w' (some g):=by
 have CP:=jh (fun(lim:Int)=>pdq_any (lim:=lim) hn h1 h7 w h);have CL:=jh (fun(W:World)=>len_any h7 W);have hnI:(n:Int)<=12:=by omega
 have hw:IntKind.u64.wrap (n:Int)=(n:Int):=by simp[IntKind.wrap,IntKind.bits,IntKind.signed];omega
 clear h hn h1
 go_enter func110,ntmps110
 go_wp2_with (first|(go_at_call 181;refine(CL.out _).mono ?_;rintro _ _ ⟨⟨r9,rfl⟩,rfl⟩)|(go_at_call 180;refine(CP.out _).mono ?_;rintro _ w2 ⟨⟨v,rfl⟩,hd,hg⟩;have HD:=jh hd;have HG:=jh hg;clear hd hg))
 go_end0
 exact⟨⟨_,rfl⟩,HD.out,HG.out⟩
theorem RX(ao:Option Addr)(n c:Nat)(w:World):
  Calls prog 38 #[.slice ao n c] w fun e w'=>e=.returned (.func (.func 111) #[] #[.pointer (some ⟨w.heap.size,0,none⟩)])/\w'=w.alloc (.cells #[.slice ao n c] 92):=by
 go_enter func38,ntmps38
 go_wp2
 go_ret
 exact⟨rfl,rfl⟩
theorem values_in(n:Nat)(hn:3<=n)(l An:Nat)(K:Nat->Prop)(hKA:K An)(xs:List Int)(ba oa ca:Nat)(J:Nat->World->Prop)(W:World)(hlen:xs.length<=1000000)
  (hA:W.heap[An]?=some (.cells #[.slice (some ⟨ba,oa,none⟩) xs.length ca] 92 (0,0)))
  (hx:∀i x,xs[i]?=some x->W.cell? ⟨ba,oa+i,none⟩=some (.int .i64 x)) (hKa:K ba) (hJd:∀k W,J k W->J k W.drew)
  (hY:∀i W0,i<xs.length->J (i+1) W0->YieldAt Fence.wide (n-1) prog l #[.int .i64 (xs.getD (xs.length-1-i) 0)] W0 fun e W'=>e=.returned (.bool true)/\J i W'/\WA K W0 W') (h0:J xs.length W):
  CallsIn Fence.wide n prog 111 #[.func (.yield l) #[] #[],.pointer (some ⟨An,0,none⟩)] W fun e W'=>(∃v,e=.returned v)/\J 0 W':=by
 refine callsIn_of_wp func111 rfl trivial ?_ rfl;simp only[ntmps111,List.size_toArray,List.length_cons,List.length_nil,Nat.reduceAdd,Nat.reduceSub,Array.replicate_succ,Array.replicate_zero,List.push_toArray,List.append_toArray,List.nil_append,List.cons_append];have HY:=jh hY;have HX:=jh hx;have HA:=jh hA;obtain⟨m,hm⟩:=je (xs.length);have HM:=jh hm;rw[<-hm] at HA HY hlen h0;have H0:=jh h0;have hmI:(m:Int)<=1000000:=by omega
 have c0:W.cell? ⟨An,0,none⟩=some (.slice (some ⟨ba,oa,none⟩) m ca):=cell_of_row W An 0 _ _ (0,0) HA.out;have hn1:1<=n:=by omega
 clear hm hA hY hx hlen h0
 gi_wp2_with fail
 gi_loopg [7] m (fun g i wr=>∃k:Nat,k<=m/\g=m-k/\i=.int .i64 (k:Int)/\Hid (J (m-k) wr)/\Hid (WA K W wr))
 case atStart=>exact⟨0,Nat.zero_le _,rfl,rfl,jh (by rw[Nat.sub_zero];exact H0.out),jh ⟨rfl,rfl,rfl,Nat.le_refl _,fun _ _=>rfl⟩⟩
 case round=>
  obtain⟨k,hk,S9,rfl,HJ,HS⟩:=hrel
  by_cases hlt:k<m
  ·have O6:(k:Int)<(m:Int):=by omega
   obtain⟨i,hi⟩:=je (m-1-k);have hik:m-k=i+1:=by omega
   have LY:=HY.out i wr (by omega) (by have:=HJ.out;rwa [hik] at this);rw[show m-1-i=k by omega] at LY;obtain⟨x,hx⟩:∃x,xs.getD k 0=x:=⟨_,rfl⟩;have hxk:xs[k]?=some x:=by rw[<-hx,List.getD_eq_getElem?_getD,Jd (by rw[<-HM.out];omega)];rfl
   rw[hx] at LY;have x0:wr.cell? ⟨ba,oa+k,none⟩=_:=(World.cell?_of_block (HS.out.block ba hKa)).trans (HX.out k x hxk);obtain⟨fn9,tmps9,assign9,body9,hy9,hR9⟩:=LY;have bI:=jh hR9;have HIK:=jh (show m-(k+1)=i/\i<m by omega);clear hR9 hx hxk hik hi;have hkI:¬((k:Int)<0):=by omega
   gi_wp2_with (have hy:=hy9;refine bI.out.mono ?_;rintro _ w9 ⟨rfl,hj9,hs9⟩;have HJ9:=jh hj9;have oU:=jh (show WA K W w9 from⟨hs9.os.trans HS.out.os,hs9.tape.trans HS.out.tape,hs9.output.trans HS.out.output,Nat.le_trans HS.out.size hs9.size,fun g hg=>(hs9.block g hg).trans (HS.out.block g hg)⟩);clear hj9 hs9)
   gi_roundg i
   case rel=>exact⟨k+1,by omega,HIK.out.1.symm,by go_num,jh (by rw[HIK.out.1];exact HJ9.out),oU⟩
   case measure=>have:=HIK.out;omega
  ·have hkm:k=m:=by omega
   subst hkm;have O6:¬((k:Int)<(k:Int)):=by omega
   gi_wp2_with fail
   exact⟨rfl,_,results_none rfl _ _ _,⟨_,rfl⟩,by have:=HJ.out;rwa [Nat.sub_self] at this⟩
structure LH(w w4:World)(SB N:Nat)(xs:List Int)(k:Nat)(W:World):Prop where
 v:∃v,W.cell? ⟨SB,0,none⟩=some v/\O1 W w4.heap.size 2 1 v (N-k) (Qn (xs.take (N-k)))
 f:W.frozen? ⟨SB,0,none⟩=false
 b:Below w.heap.size w W
 s:w4.heap.size<=W.heap.size
theorem LH.later{w w4 W W':World}{SB N k:Nat}{xs:List Int}(h:LH w w4 SB N xs k W)(hb:Below W.heap.size W W'):LH w w4 SB N xs k W':=by
 obtain⟨⟨v,h1,h2⟩,h3,h4,h5⟩:=h;exact⟨⟨v,jj h1 hb,O1.later h2 hb⟩,(hb.frozen (World.block_lt_of_cell? (a:=⟨SB,0,none⟩) _ h1)).trans h3,jm h4 hb,Nat.le_trans h5 hb.size⟩
theorem LH.putObj{w w4 W:World}{SB N k l:Nat}{xs:List Int}{o1 o2:Obj}(h:LH w w4 SB N xs k W)(hl:w.heap.size<=l)(h1:W.heap[l]?=some o1) (h2:o1.isCells=false):LH w w4 SB N xs k (W.putObj l o2):=by
 obtain⟨⟨v,c1,c2⟩,c3,c4,c5⟩:=h;refine⟨⟨v,JM h1 h2 c1,O1.block c2 fun g hg=>World.putObj_heap_other ?_⟩,ZN h1 h2 c1 c3,⟨c4.os,c4.tape,c4.output,by simpa using c4.size,fun g hg=>(World.putObj_heap_other (by omega)).trans (c4.block g hg)⟩,by simpa using c5⟩;rintro rfl
 rcases c2.2 with⟨rfl,_⟩|⟨g',o',cap',cur,rfl,_,hh,_⟩
 ·cases hg
 ·cases hg
  rw[h1] at hh
  cases hh
  cases h2
theorem sF{l n:Nat}{P:Program}{ops:Array Oper}{rest:List Oper}{o:Oper}{a:Act}{w w':World}{Q:Exit->Act->World->Prop}{v:Value}(hgd:o.guard=none)(hdf:∀c,o.op≠.defer c)(h:(execOp a.eval o).run P w=.ok (.value v) w')
  (k:wpListIn (Fence.wide.inRound l) n P ops Q rest (a.put o.dst v) w'):wpListIn (Fence.wide.inRound l) n P ops Q (o::rest) a w:=
 wpListIn_plain hgd fun K hK=>by
  refine⟨fun _ _=>trivial,?_⟩;have e:o.semAt (Fence.wide.inRound l).round a.eval=execOp a.eval o:=Oper.semAt_some l _ _ hdf;rw[e,h];exact hK _ _ k
theorem pO{P:Program}{w w':World}{o:Oper}{ev:Operand->Value}{s x:Operand}{t:TypeId}{v y v':Value}(ho:o.op=.call {callee:=.builtin .append,args:=#[s,x],argTypes:=#[t,t]})(hs:ev s=v)(hy:ev x=y)(hr:(Builtin.append_ #[t,t] o.type #[v,y]).run P w=.ok v' w'):
  (execOp ev o).run P w=.ok (.value v') w':=by
 unfold execOp;simp only[ho,resolve,invoke,builtin,Sem.run_bind,Sem.run_pure,Result.andThen_ok,List.map_toArray,List.map_cons,List.map_nil,hs,hy,hr]
theorem aseq_any{An ba oa ca N:Nat}{xs:List Int}(hN:N=xs.length)(hlen:N<=12)(w:World)(hA:w.heap[An]?=some (.cells #[.slice (some ⟨ba,oa,none⟩) N ca] 92 (0,0))) (hX:∀i x,xs[i]?=some x->w.cell? ⟨ba,oa+i,none⟩=some (.int .i64 x)) (hba:ba<w.heap.size):
  Calls prog 179 #[.slice none 0 0,.func (.func 111) #[] #[.pointer (some ⟨An,0,none⟩)]] w fun e w'=>∃v,e=.returned v/\O1 w' w.heap.size 2 1 v N (Qn xs)/\Below w.heap.size w w':=by
 have HN:=jh hN;have HA:=jh hA;have HX:=jh hX;have hAn:An<w.heap.size:=(J6.1 hA).1;clear hN hA hX;refine(callsIn_wide (n:=9)).1 ?_;refine callsIn_of_wp_marks func179 rfl trivial ?_ rfl;simp only[ntmps179,List.size_toArray,List.length_cons,List.length_nil,Nat.reduceAdd,Nat.reduceSub,Array.replicate_succ,Array.replicate_zero,List.push_toArray,List.append_toArray,List.nil_append,List.cons_append]
 gi_wp2_with fail
 obtain⟨w4,e4⟩:=je (w.alloc (.cells #[.slice none 0 0] 92));obtain⟨SB,bC⟩:=je (w.heap.size);have hb:=jc e4;have hs4:w4.heap.size=SB+1:=by rw[e4,bC];simp
 have hr4:w4.heap[SB]?=some (.cells #[.slice none 0 0] 92 (0,0)):=by rw[e4,bC];exact jQ
 have HI0:=jh (show LH w w4 SB N xs N w4 from⟨⟨_,cell_of_row w4 SB 0 _ _ (0,0) hr4,⟨by simp[Qn],.inl ⟨rfl,by omega⟩⟩⟩,by simp[World.frozen?,hr4],hb,Nat.le_refl _⟩);have HB4:=jh hb;rw[<-e4,<-bC];have hwS:w.heap.size<=SB:=by omega
 have hs4a:SB<w4.heap.size:=by omega
 have hs4b:w4.heap.size<=SB+1:=by omega
 clear e4 hb hr4 bC hs4;refine' LK (by omega) (vX:=111) (caps:=#[.pointer (some ⟨An,0,none⟩)]) (encs:=fun i=>#[.int .i64 (xs.getD (N-1-i) 0)]) rfl ?hent (fun g=>g<w4.heap.size/\g≠SB) (fun k hk=>hk.1) N (fun i=>rfl) (fun k W=>LH w w4 SB N xs k W) ?hI ?hId ?h0 ?hit ?pM ?hdone
 case hent=>intro args W;simp[go_sem]
 case hI=>intro k A l o o9 hl ho hn h;exact h.putObj (by omega) ho hn
 case hId=>intro k W h;exact h.later U3.drew
 case h0=>
  intro o1 o2;exact HI0.out.later (((Below.refl _ w4).alloc (Nat.le_refl _) _).alloc (by simp) _)
 case hit=>
  intro l J W hJd hY hb hJ;have h9:=HN.out;subst h9;exact values_in _ (by omega) l An (fun g=>g<w4.heap.size/\g≠SB) ⟨by omega,by omega⟩ xs ba oa ca J W (by omega) ((hb.block An (by omega)).trans ((HB4.out.block An (by omega)).trans HA.out)) (fun i x hx=>jj (jj (HX.out i x hx) HB4.out) hb) ⟨by omega,by omega⟩ hJd hY hJ
 case pM=>
  intro l i W KK hiN h hl hob hK;obtain⟨x,hx⟩:=je (xs.getD (N-1-i) 0);have hkk:N-1-i<xs.length:=by have:=HN.out;omega
  have hxk:xs[N-1-i]?=some x:=by rw[hx,List.getD_eq_getElem?_getD,List.getElem?_eq_getElem hkk];rfl
  rw[<-hx];obtain⟨iv,hi1,hi2,hi3,hi4⟩:∃i,prog.info? 2=some i/\i.zero=some (.int .i64 0)/\i.size=1/\i.bytes=8:=⟨_,rfl,by kernel_rfl,by kernel_rfl,by kernel_rfl⟩;have HXK:=jh hxk;have HI1:=jh hi1;have HI2:=jh hi2;have HI3:=jh hi3;have HI4:=jh hi4;have HM:=jh h;clear h hx hkk hxk hi1 hi2 hi3 hi4
  gi_wp2_with fail
  obtain⟨ob,ho1,ho2⟩:=hob;refine hK _ _ ⟨Nat.le_refl _,fun k o _ hk _=>hk⟩ ⟨rfl,rfl,rfl,Nat.le_refl _,fun _ _=>rfl⟩ (fun o9=>?_);clear hK;obtain⟨v3,e3⟩:=je (W.putObj l o9);have HM:=jh (show LH w w4 SB N xs (i+1) v3 by rw[e3];exact HM.out.putObj (by omega) ho1 ho2);rw[<-e3];clear e3 ho1 ho2;obtain⟨⟨u,hc,hu⟩,hf,hbl,hsz⟩:=HM.out;obtain⟨a,c,rfl⟩:=hu.shape9;obtain⟨m,hm⟩:=je (N-(i+1));rw[<-hm] at hu hc;have hm1:m+1=N-i:=by omega
  have hmx:N-1-i=m:=by omega
  have HU:=jh hu;have HF:=jh hf;have UH:=jh hbl;have I7:=jh hsz;have HC:=jh hc;obtain⟨v4,e4⟩:=je (v3.alloc (.cells #[.int .i64 x] 2));have hb4:=jc e4;have hr4:v4.heap[v3.heap.size]?=some (.cells #[.int .i64 x] 2 (0,0)):=by rw[e4];exact jQ
  have hsrc:ZT v4 1 (.slice (some ⟨v3.heap.size,0,none⟩) 1 1) 1 [.int .i64 x]:=⟨_,_,rfl,rfl,(fun q hq=>by simp only[List.mem_singleton] at hq;subst hq;rfl),(fun e=>by cases e),fun ad had j q hq=>by
   cases had
   have fJ:=(List.getElem?_eq_some_iff.1 hq).1;simp only[List.length_cons,List.length_nil] at fJ;obtain rfl:j=0:=by omega
   rw[Addr.add_lit,cell_of_row _ _ _ _ _ _ hr4]
   exact hq⟩
  obtain⟨v',w5,hr5,ho5,hg5,hl5⟩:=ZH (P:=prog) v4 w4.heap.size 92 92 2 iv (.int .i64 0) 1 8 underlying92 HI1.out HI2.out HI3.out HI4.out rfl (.slice a m c) m _ (O1.later hu hb4) _ 1 [.int .i64 x] hsrc (by unfold maxLen;omega) (by omega) (Nat.le_trans hsz hb4.size);obtain⟨a5,c5,rfl⟩:=ho5.shape9;have hnS:some SB≠(Value.slice a m c).ownBlock:=fun e=>by have h9:=(hu.lt SB e.symm).1;omega
  have hlt3:SB<v3.heap.size:=by omega
  have hq5:w5.heap[SB]?=v3.heap[SB]?:=(hg5.block SB (jv hlt3 hb4.size) hnS).trans (hb4.block SB hlt3);have HC5:=jh (show w5.cell? ⟨SB,0,none⟩=some (.slice a m c) from(World.cell?_of_block (w:=v3) (a:=⟨SB,0,none⟩) hq5).trans hc);have HF5:=jh (show w5.frozen? ⟨SB,0,none⟩=false from(World.frozen?_of_block (w:=v3) (a:=⟨SB,0,none⟩) hq5).trans hf);have lK:=jh hr5;have HO5:=jh ho5;have nK:=jh hg5;have HB4':=jh hb4;have HNM:=jh (And.intro hm1 hmx);clear hr5 ho5 hg5 hl5 hq5 hnS hsrc hr4 hb4 hu hc hf hbl hsz hm1 hmx;have HM2:=jh hm;clear hm;refine wpIn_block ?_;refine wpIn_region_lit ?_;refine JZ (v:=.slice a m c) rfl (fun _ h=>by cases h) (jd (loadFs HC.out)) ?_;simp only[Act.put,pa,pb,pc];refine JZ (v:=.int .i64 x) rfl (fun _ h=>by cases h) (by kernel_rfl) ?_;simp only[Act.put,pa,pb,pc];refine sF (v:=.slice (some ⟨v3.heap.size,0,none⟩) 1 1) (w':=v3.alloc (.cells #[.int .i64 x] 2)) rfl (fun _ h=>by cases h) (by kernel_rfl) ?_;simp only[Act.put,pa,pb,pc];rw[<-e4];refine sF (v:=.slice a5 (m+1) c5) (w':=w5) rfl (fun _ h=>by cases h) (pO rfl rfl rfl lK.out) ?_;simp only[Act.put,pa,pb,pc];have k5:=HC5.out;have f5:=HF5.out
  gi_wp2_with fail
  clear k5 f5;have hu:=HU.out;have hb4:=HB4'.out;have hg5:=nK.out;have ho5:=HO5.out;have hsz:=I7.out;have hbl:=UH.out;have vM:=HM2.out;obtain⟨q1,q2⟩:=HNM.out;obtain⟨w6,e6⟩:=je (w5.setCell ⟨SB,0,none⟩ (.slice a5 (m+1) c5));have h6:∀g,g≠SB->w6.heap[g]?=w5.heap[g]?:=fun g hg=>by rw[e6];exact Below.heap_setCell _ _ _ _ hg
  have hs6:w6.heap.size=w5.heap.size:=by rw[e6];simp[World.setCell]
  have ho6:w6.os=w5.os/\w6.tape=w5.tape/\w6.output=w5.output:=by rw[e6];exact⟨rfl,rfl,rfl⟩
  have hc6:w6.cell? ⟨SB,0,none⟩=some (.slice a5 (m+1) c5):=by rw[e6];exact World.cell?_setCell_same _ _ _ HC5.out
  have hf6:w6.frozen? ⟨SB,0,none⟩=false:=by rw[e6,World.frozen?_setCell];exact HF5.out
  have hr6:∀g,g<v3.heap.size->g≠SB->some g≠(Value.slice a m c).ownBlock->w6.heap[g]?=v3.heap[g]?:=fun g h1 h2 h3=>(h6 g h2).trans ((hg5.block g (jv h1 hb4.size) h3).trans (hb4.block g h1))
  rw[<-e6];clear e6;refine⟨⟨Nat.le_trans hb4.size (Nat.le_trans hg5.size (Nat.le_of_eq hs6.symm)),fun k o hk ho hn=>?_⟩,⟨ho6.1.trans (hg5.os.trans hb4.os),ho6.2.1.trans (hg5.tape.trans hb4.tape),ho6.2.2.trans (hg5.output.trans hb4.output),Nat.le_trans hb4.size (Nat.le_trans hg5.size (Nat.le_of_eq hs6.symm)),fun g hg=>?_⟩,⟨⟨_,hc6,?_⟩,hf6,?_,?_⟩⟩
  ·refine(hr6 k (zA ho) (by omega) (fun e=>?_)).trans ho
   rcases hu.2 with⟨h1,_⟩|⟨g',o',cap',cur,h1,_,hh,_⟩
   ·cases h1
    cases e
   ·cases h1
    cases e
    rw[ho] at hh
    cases hh
    cases hn
  ·exact hr6 g (jv hg.1 hsz) hg.2 (fun e=>by have h9:=(hu.lt g e.symm).1;omega)
  ·have h9:O1 w6 w4.heap.size 2 1 (.slice a5 (m+1) c5) (m+1) (Qn (xs.take m)++[.int .i64 x]):=O1.block ho5 fun g hg=>h6 g (fun e=>by have h8:=(ho5.lt g hg).1;omega)
   have e1:xs.take (N-i)=xs.take m++[x]:=by
    rw[<-q1,List.take_add_one,<-q2,HXK.out]
    rfl
   rw[e1,<-q1]
   simpa[Qn] using h9
  ·refine⟨ho6.1.trans (hg5.os.trans (hb4.os.trans hbl.os)),ho6.2.1.trans (hg5.tape.trans (hb4.tape.trans hbl.tape)),ho6.2.2.trans (hg5.output.trans (hb4.output.trans hbl.output)),Nat.le_trans hbl.size (Nat.le_trans hb4.size (Nat.le_trans hg5.size (Nat.le_of_eq hs6.symm))),fun g hg=>?_⟩;exact(hr6 g (jv hg hbl.size) (by omega) (fun e=>by have h9:=(hu.lt g e.symm).1;omega)).trans (hbl.block g hg)
  ·exact Nat.le_trans hsz (Nat.le_trans hb4.size (Nat.le_trans hg5.size (Nat.le_of_eq hs6.symm)))
 case hdone=>
  intro D W hD h hDf;obtain⟨⟨u,hc,hu⟩,hf,hbl,hsz⟩:=h;rw[Nat.sub_zero,HN.out,List.take_length] at hu;have HU:=jh hu;have HDF:=jh hDf;have UH:=jh hbl;obtain⟨a,c,rfl⟩:=hu.shape9;rw[<-HN.out] at HU hc;clear hDf hu hbl hf hsz
  gi_wp2_with fail
  have hD0:w.heap.size<=D:=by omega
  obtain⟨wg,ewg⟩:=je (W.putObj D (.deferred none));have hsf:∀g,g≠D->wg.heap[g]?=W.heap[g]?:=fun g h1=>by rw[ewg];exact World.putObj_heap_other (by omega)
  refine⟨by simp,.inl ⟨D,wg,rfl,by rw[ewg];exact run_takeDeferred HDF.out,?_⟩⟩;refine⟨.slice a N c,by simp[results,results179,go_sem],_,rfl,?_,?_⟩
  ·refine O1.base (O1.block HU.out fun g hg=>hsf g fun e=>?_) (Nat.le_trans hwS (Nat.le_of_lt hs4a))
   rcases HU.out.2 with⟨h1,_⟩|⟨g',o',cap',cur,h1,_,hh,_⟩
   ·cases h1
    cases hg
   ·cases h1
    cases hg
    have e2:g'=D:=e;rw[e2,HDF.out] at hh
    cases hh
  ·exact⟨by rw[ewg];exact UH.out.os,by rw[ewg];exact UH.out.tape,by rw[ewg];exact UH.out.output,by rw[ewg];simpa using UH.out.size,fun g hg=>(hsf g (by omega)).trans (UH.out.block g hg)⟩
theorem DW{An ba oa ca N:Nat}{xs:List Int}(hN:N=xs.length)(hlen:N<=12)(w:World)(hA:w.heap[An]?=some (.cells #[.slice (some ⟨ba,oa,none⟩) N ca] 92 (0,0))) (hX:∀i x,xs[i]?=some x->w.cell? ⟨ba,oa+i,none⟩=some (.int .i64 x)) (hba:ba<w.heap.size):
  Calls prog 109 #[.func (.func 111) #[] #[.pointer (some ⟨An,0,none⟩)]] w fun e w'=>∃v,e=.returned v/\O1 w' w.heap.size 2 1 v N (Qn xs)/\Below w.heap.size w w':=by
 have CA:=jh (aseq_any hN hlen w hA hX hba);clear hN hlen hA hX hba
 go_enter func109,ntmps109
 go_wp2_with (first|(go_at_call 179;refine CA.out.mono ?_;rintro _ w2 ⟨v,rfl,ho,hb⟩;have HO:=jh ho;have HB:=jh hb;clear ho hb))
 go_ret
 exact⟨_,rfl,HO.out,HB.out⟩
theorem aY{An ba oa ca N:Nat}{xs:List Int}(hN:N=xs.length)(h1:1<=N)(hlen:N<=12)(w:World)(hA:w.heap[An]?=some (.cells #[.slice (some ⟨ba,oa,none⟩) N ca] 92 (0,0))) (hX:∀i x,xs[i]?=some x->w.cell? ⟨ba,oa+i,none⟩=some (.int .i64 x)) (hba:ba<w.heap.size):
  Calls prog 37 #[.func (.func 111) #[] #[.pointer (some ⟨An,0,none⟩)]] w fun e w'=>∃g o c D,e=.returned (.slice (some ⟨g,o,none⟩) N c)/\O1 w' w.heap.size 2 1 (.slice (some ⟨g,o,none⟩) N c) N (Qn D)/\D.Perm xs/\D.Pairwise (· <= ·)/\Below w.heap.size w w':=by
 have CA:=jh (DW hN hlen w hA hX hba);have CS:=jh (fun(W:World) (g o c:Nat) (h9:O1 W w.heap.size 2 1 (.slice (some ⟨g,o,none⟩) N c) N (Qn xs))=>sort_any hN h1 hlen W h9);have H1:=jh h1;clear hN hlen hA hX hba h1
 go_enter func37,ntmps37
 go_upto_region 2 with(first|(go_at_call 109;refine CA.out.mono ?_;rintro _ w2 ⟨v,rfl,ho,hb⟩;have HO:=jh ho;have HB:=jh hb;clear ho hb))
 obtain⟨g,o,c,rfl⟩:∃g o c,v=.slice (some ⟨g,o,none⟩) N c:=by
  rcases HO.out.2 with⟨_,h9⟩|⟨g,o,cap,cur,rfl,_⟩
  ·have:=H1.out;omega
  ·exact⟨g,o,cap,rfl⟩
 go_wp2_with (first|(go_at_call 110;refine(CS.out _ g o c HO.out).mono ?_;rintro _ w3 ⟨⟨v9,rfl⟩,⟨D,hd,hp,hs⟩,hg⟩;have HD:=jh hd;have HP:=jh hp;have HS:=jh hs;have HG:=jh hg;clear hd hp hs hg))
 go_ret
 exact⟨g,o,c,D,rfl,HD.out,HP.out,HS.out,HB.out.grown HG.out HB.out.size (fun k hk=>by injection hk with hk;rw[<-hk];exact(HO.out.lt g rfl).1)⟩
theorem BFar_nil(w:World):
  Calls prog 18 #[.pointer none] w fun r w'=>r=.returned (.int .u32 0)/\w=w':=by
 go_enter func18,ntmps18
 go_wp2_with (first|(go_at_call 31;refine(IE _).mono ?_;rintro _ _ ⟨rfl,rfl⟩))
 go_ret
 exact⟨rfl,rfl⟩
def KI(E:List Bal.Bv)(n:Nat):List Int:=(List.range n).map fun i=>Bal.farOf E (i+1)
theorem farL_eq(E:List Bal.Bv)(n:Nat):xH E n=Qn (KI E n):=by
 unfold xH Qn KI;rw[List.map_map]
 rfl
theorem RF(E:List Bal.Bv)(n:Nat):(KI E n).length=n:=by simp[KI]
def FarIs(E:List Bal.Bv)(n:Nat)(fa:Int)(y:Int):Prop:=∃D:List Int,D.Perm (KI E n)/\D.Pairwise (· <= ·)/\D[n-(fa+1).toNat]?=some y
theorem BFar_any{bx gp gq gg gh n cap nb no mb fb fo fc ep base:Nat}{fa se:Int}{ks:List (Nat×Nat)}{vv:Bal.Bv->List Value}{f:Value->Option Value}{E:List Bal.Bv}(hn7:n<=7)(hf0:0<=fa)(hf2:fa<=2)(hfn:fa+1<=n)(hE:∀x∈E,x.v<4294967296)(w:World)(h:J7 w bx gp gq gg gh n cap nb no mb fb fo fc ep base fa se ks vv f E):
  Calls prog 18 #[.pointer (some ⟨bx,0,none⟩)] w fun r w'=>∃y:Int,r=.returned (.int .u32 (max 0 y))/\FarIs E n fa y/\y<4294967296/\Below w.heap.size w w':=by
 have h1n:1<=n:=by omega
 have hcm:=h.mp;have HX:=jh h;have CS:=jh (fun(W:World) (An:Nat) hA hX hba=>aY (An:=An) (ba:=fb) (oa:=fo) (ca:=fc) (N:=n) (xs:=KI E n) (RF E n).symm h1n (by omega) W hA hX hba);have hsome:someS fa=fa+1:=by unfold someS;rw[if_neg (by omega)]
 have CO:=jh (fun(W:World)=>by have h9:=some_any fa W;rw[hsome] at h9;exact h9);have H1:=jh h1n;have HEV:=jh hE;have hnI:(n:Int)<=7:=by omega
 obtain⟨ix,hix⟩:∃ix:Nat,ix=n-(fa+1).toNat:=⟨_,rfl⟩;have hixI:(n:Int)-(fa+1)=(ix:Int):=by omega
 have hixn:(ix:Int)<(n:Int):=by omega
 have HIX:=jh hix;have HXI:=jh (show IntKind.i64.wrap ((n:Int)-(fa+1))=(ix:Int) by rw[hixI];simp[IntKind.wrap,IntKind.bits,IntKind.signed];omega);have HF:=jh (And.intro hf0 hf2);clear h hsome hE h1n hix hf0 hf2 hfn hixI hn7
 go_enter func18,ntmps18
 go_upto_region 3 with(first|(go_at_call 31;refine(JR _ hcm).mono ?_;rintro _ w2 ⟨rfl,hb⟩;have HB:=jh hb;clear hb))
 clear hcm;have HX:=jh (HX.out.later HB.out);have hfr:=HX.out.fr;obtain⟨w3,e3⟩:=je (w2.alloc (.cells #[.slice (some ⟨fb,fo,none⟩) n fc] 92));have hb3:=jc e3;have hr3:w3.heap[w2.heap.size]?=some (.cells #[.slice (some ⟨fb,fo,none⟩) n fc] 92 (0,0)):=by rw[e3];exact jQ
 have AX:=jh (HX.out.later hb3);have HB3:=jw HB hb3
 have CS3:=jh (CS.out w3 w2.heap.size hr3 (fun i x hx=>by
  have hfar:=AX.out.far;rw[farL_eq] at hfar
  exact O1.cell9 hfar (Jg hx)) (jv AX.out.lt.2.2.2 AX.out.bs))
 have E3:=jh e3;clear hr3 hb3 e3
 go_upto_region 4 with(first|(go_at_call 38;refine(RX _ _ _ _).mono ?_;rintro _ w9 ⟨rfl,aC⟩;rw[<-E3.out] at aC;subst aC)|(go_at_call 37;refine CS3.out.mono ?_;rintro _ w4 ⟨g,o,c,D,rfl,hd,hp,hs,hb⟩;have HD:=jh hd;have HP:=jh hp;have HS:=jh hs;have HB4:=jh hb;clear hd hp hs hb))
 clear hfr;have HX4:=jh (AX.out.later HB4.out);have hfa:=HX4.out.set.fa;obtain⟨y,hy⟩:∃y,D[ix]?=some y:=⟨_,Jd (by have h9:=HP.out.length_eq;rw[RF] at h9;omega)⟩;have hyc:=O1.cell9 HD.out (Jg hy)
 have hyb: -1<=y/\y<4294967296:=by
  have hm:=HP.out.mem_iff.1 (List.mem_of_getElem? hy);obtain⟨i,_,rfl⟩:=List.mem_map.1 hm;refine⟨Bal.far_low _ _,?_⟩
  rcases Bal.far_one E (i+1) with e|⟨x,hx,_,e⟩
  ·omega
  ·have:=HEV.out x hx;omega
 have HY:=jh hy;have KC:=jh hyb;have hxi:=HXI.out;have hym:max 0 y%4294967296=max 0 y:=Int.emod_eq_of_lt (by omega) (by omega);have HYM:=jh hym;clear hy hyb hym
 go_wp2_with (first|(go_at_call 39;refine(CO.out _).mono ?_;rintro _ _ ⟨rfl,rfl⟩))
 go_ret
 refine⟨y,?_,⟨D,HP.out,HS.out,by rw[<-HIX.out];exact HY.out⟩,KC.out.2,jm HB3.out HB4.out⟩
 show Ending.returned (Value.int IntKind.u32 (max 0 y%4294967296))=_
 rw[HYM.out]
end Go.Proofs.YtpkalgofejjggaaGreatDoor
