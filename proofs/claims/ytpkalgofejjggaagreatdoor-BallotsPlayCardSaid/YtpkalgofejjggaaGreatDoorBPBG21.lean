/- The reference's Get, GetLong -/
import Derived.Test.YtpkalgofejjggaaGreatDoorBPBG05
import Derived.Test.YtpkalgofejjggaaGreatDoorBPBG08
import Derived.RegionTactic
set_option maxHeartbeats 3000000
set_option maxRecDepth 20000
namespace Go.Proofs.YtpkalgofejjggaaGreatDoor
open Go.ChangeShapes Go.WideShapes Go.ChangeAt Go.RowKit Go.Proofs.Tryz
def W4(w:World)(b:Nat)(x0 x1 x2 x3:Nat):Prop:=w.cell? ⟨b,0,none⟩=some (.int .u64 x0)/\w.cell? ⟨b,1,none⟩=some (.int .u64 x1)/\w.cell? ⟨b,2,none⟩=some (.int .u64 x2)/\w.cell? ⟨b,3,none⟩=some (.int .u64 x3)
def F4(w:World)(b:Nat):Prop:=w.frozen? ⟨b,0,none⟩=false/\w.frozen? ⟨b,1,none⟩=false/\w.frozen? ⟨b,2,none⟩=false/\w.frozen? ⟨b,3,none⟩=false
theorem W4.u{w:World}{b x0 x1 x2 x3:Nat}(h:W4 w b x0 x1 x2 x3):I8 w b 4 (fun j=>[x0,x1,x2,x3].getD j 0):=by
 obtain⟨c0,c1,c2,c3⟩:=h;intro j hj;have:j=0∨j=1∨j=2∨j=3:=by omega
 rcases this with rfl|rfl|rfl|rfl
 ·exact c0
 ·exact c1
 ·exact c2
 ·exact c3
theorem I8.w4{w:World}{b:Nat}{A:Nat->Nat}(h:I8 w b 4 A):W4 w b (A 0) (A 1) (A 2) (A 3):=⟨h 0 (by omega),h 1 (by omega),h 2 (by omega),h 3 (by omega)⟩
theorem rev4(w:World)(b x0 x1 x2 x3:Nat)(hc:W4 w b x0 x1 x2 x3)(hf:F4 w b):
  Calls prog 227 #[.slice (some ⟨b,0,none⟩) 4 4] w fun e w'=>e=.returned (.tuple #[])/\W4 w' b x3 x2 x1 x0/\Below b w w':=by
 obtain⟨c0,c1,c2,c3⟩:=hc;obtain⟨f0,f1,f2,f3⟩:=hf
 go_enter func227,ntmps227
 go_wp2
 refine wp_loop_rounds 3 ?_
 iterate 2
  rw[rounds_succ]
  go_wp2
  go_region
  go_wp2
 rw[rounds_succ]
 go_wp2
 go_end0
 refine⟨rfl,?_,?_⟩
 ·have h:=((((W4.u ⟨c0,c1,c2,c3⟩).set 0 x3).set 3 x0).set 1 x2).set 2 x1
  exact(h.congr (B:=fun j=>[x3,x2,x1,x0].getD j 0) (fun j hj=>by
   have:j=0∨j=1∨j=2∨j=3:=by omega
   rcases this with rfl|rfl|rfl|rfl<;>rfl)).w4
 ·exact(((((((Below.refl _ w).setCell (Nat.le_refl b) _).setCell (Nat.le_refl b) _).setCell (Nat.le_refl b) _).setCell (Nat.le_refl b) _).drew).drew)
theorem w4_at{w:World}{b x0 x1 x2 x3:Nat}(h:W4 w b x0 x1 x2 x3):F7 .u64 w (.slice (some ⟨b,0,none⟩) 4 4) [x0,x1,x2,x3]:=by
 obtain⟨c0,c1,c2,c3⟩:=h;refine⟨_,_,rfl,Nat.le_refl _,by unfold maxLen;simp,(fun h=>by cases h),fun _=>⟨_,_,rfl,fun i x hx=>?_⟩⟩
 match i,hx with
 |0,hx=>simp at hx;subst hx;simpa using c0
 |1,hx=>simp at hx;subst hx;simpa using c1
 |2,hx=>simp at hx;subst hx;simpa using c2
 |3,hx=>simp at hx;subst hx;simpa using c3
theorem gX{b:List Nat}{v:Value}(w:World)(hv:F7 .u8 w v b)(x0 x1 x2 x3:Nat)(hsz:b.length+32<=140737488355328):
  Calls prog 188 #[v,.agg #[.int .u64 x0,.int .u64 x1,.int .u64 x2,.int .u64 x3]] w fun e w'=>∃v',e=.returned v'/\Own w' w.heap.size v' (b++(be 8 x3++(be 8 x2++(be 8 x1++be 8 x0))))/\Below w.heap.size w w':=by
 have HV:=jh hv;have HR:=jh (fun t=>rev4 (w.alloc (.cells #[.int .u64 x0,.int .u64 x1,.int .u64 x2,.int .u64 x3] t)) w.heap.size x0 x1 x2 x3 ⟨by simp,by simp,by simp,by simp⟩ ⟨by simp,by simp,by simp,by simp⟩);have HP:=jh (fun(w1:World) (t:TypeId) (hb:Below w.heap.size (w.alloc (.cells #[.int .u64 x0,.int .u64 x1,.int .u64 x2,.int .u64 x3] t)) w1) (h4:W4 w1 w.heap.size x3 x2 x1 x0)=>put_own (k:=8) 8 rfl w1 (HV.out.later (((Below.refl _ w).alloc (Nat.le_refl _) _).trans hb)) (by omega) (w4_at h4) (by simp) (by simp;omega));clear hv
 go_enter func188,ntmps188
 go_wp2_with (first
  |(go_at_call 227;refine(HR.out _).mono ?_;rintro e w1 ⟨rfl,h4,hb⟩;have H4:=jh h4;have HB:=jh hb;clear h4 hb)
  |(go_at_call 228;refine(HP.out w1 _ HB.out H4.out).mono ?_;rintro e w2 ⟨v',rfl,ho,hb⟩;have HO:=jh ho;have HB2:=jh hb;clear ho hb))
 go_ret
 have hbb:=((Below.refl _ w).alloc (Nat.le_refl _) (.cells #[.int .u64 x0,.int .u64 x1,.int .u64 x2,.int .u64 x3] 24)).trans HB.out;exact⟨_,rfl,by have h:=HO.out.base (B':=w.heap.size) hbb.size;simpa[bes] using h,hbb.trans (HB2.out.mono hbb.size)⟩
def qK(b:List Nat)(i:Nat):Nat:=num ((b.drop (8*i)).take 8)
theorem rX{b:List Nat}{v:Value}(w:World)(hv:F7 .u8 w v b)(hb:qk b)(hl:32<=b.length):
  Calls prog 226 #[v] w fun e w'=>e=.returned (.tuple #[.agg #[.int .u64 (qK b 3),.int .u64 (qK b 2),.int .u64 (qK b 1),.int .u64 (qK b 0)],.int .i64 0])/\Below w.heap.size w w':=by
 obtain⟨ao,cap,rfl,hc1,hc2,hc3,hc4⟩:=hv;obtain⟨g,o,rfl,hc5⟩:=hc4 (by omega);have hm1:=hc2;unfold maxLen at hm1
 have HG:=jh (fun(i:Nat) (hi:i<4) (x:Nat) (hx:qK b i=x) (v':Value) (hv':v'=.slice (some ⟨g,o+8*i,none⟩) (b.length-8*i) (cap-8*i)) (w1:World) (hb1:Below w.heap.size w w1)=>
  (show Calls prog 266 #[v',.int .i64 8] w1 fun e w'=>e=.returned (.tuple #[.int .u64 x,.int .i64 0])/\w1=w' from by
   subst hv' hx;have h:=Get_any (m:=8) w1 ((F7.drop hc5 hc1 hc2 (8*i) (by omega)).later hb1) (fun y hy=>hb y (List.drop_subset _ _ hy)) (by omega) (by omega) (by simp;omega)
   exact h))
 clear hc4 hc5 hc3 hb hc2;obtain⟨y0,e0⟩:∃y,Hid (qK b 0=y):=⟨_,jh rfl⟩;obtain⟨y1,e1⟩:∃y,Hid (qK b 1=y):=⟨_,jh rfl⟩;obtain⟨y2,e2⟩:∃y,Hid (qK b 2=y):=⟨_,jh rfl⟩;obtain⟨y3,e3⟩:∃y,Hid (qK b 3=y):=⟨_,jh rfl⟩;rw[e0.out,e1.out,e2.out,e3.out]
 go_enter func226,ntmps226
 go_wp2
 refine wp_loop_rounds 5 ?_;rw[rounds_succ]
 go_wp2_with fail
 refine(HG.out 0 (by omega) y0 e0.out _ (by simp) _ ((Below.refl _ w).alloc (Nat.le_refl _) _)).mono ?_;rintro e w1 ⟨rfl,rfl⟩
 go_wp2_with fail
 rw[rounds_succ]
 go_wp2_with fail
 refine(HG.out 1 (by omega) y1 e1.out _ (by simp) _ ((Below.refl _ w).alloc (Nat.le_refl _) _)).mono ?_;rintro e w2 ⟨rfl,rfl⟩
 go_wp2_with fail
 rw[rounds_succ]
 go_wp2_with fail
 refine(HG.out 2 (by omega) y2 e2.out _ (by simp) _ ((Below.refl _ w).alloc (Nat.le_refl _) _)).mono ?_;rintro e w3 ⟨rfl,rfl⟩
 go_wp2_with fail
 rw[rounds_succ]
 go_wp2_with fail
 refine(HG.out 3 (by omega) y3 e3.out _ (by simp) _ ((Below.refl _ w).alloc (Nat.le_refl _) _)).mono ?_;rintro e w4 ⟨rfl,rfl⟩
 go_wp2_with fail
 rw[rounds_succ]
 go_wp2_with fail
 exact bodyPost_ret (v:=.tuple #[.agg #[.int .u64 y3,.int .u64 y2,.int .u64 y1,.int .u64 y0],.int .i64 0]) (by simp[results,results226,go_sem]) rfl ⟨rfl,(Below.refl _ w).alloc (Nat.le_refl _) _⟩
theorem RGet_any{b:List Nat}{v:Value}(w:World)(hv:F7 .u8 w v b)(hb:qk b)(m:Nat)(h1:1<=m)(h8:m<=8)(hm:m<=b.length):
  Calls prog 272 #[v,.int .i64 m] w fun e w'=>e=.returned (.tuple #[.int .u64 (num (b.take m)),.int .i64 0])/\w=w':=by
 obtain⟨ao,cap,rfl,hc1,hc2,hc3,hc4⟩:=hv;obtain⟨g,o,rfl,hc5⟩:=hc4 (by omega);have HC:=jh hc5;have HB:=jh hb;have hm1:=hc2;unfold maxLen at hm1;clear hc4 hc5 hc3 hb;have hd1:decide (b.length<m)=false:=by simpa using hm
 go_enter func272,ntmps272
 go_wp2
 go_loop [6,7] (fun n i=>∃i':Nat,i'<=m/\i=.int .i64 i'/\n=.int .u64 (num (b.take i'))) (fun _ i=>m-(intOf i).toNat)
 case atStart=>exact⟨0,Nat.zero_le _,rfl,by simp[num]⟩
 case round=>
  obtain⟨i,hi,rfl,rfl⟩:=hrel
  by_cases hlt:i<m
  ·obtain⟨x,hx⟩:∃x,b[i]?=some x:=⟨_,Jd (by omega)⟩;have hcell:=HC.out i x hx;have HX:=jh hx;have hx8:x<256:=HB.out x (List.mem_of_getElem? hx);obtain⟨n,hn⟩:∃n,Hid (num (b.take i)=n):=⟨_,jh rfl⟩;rw[hn.out]
   have hnl:n<72057594037927936:=by
    have h2:=GL i (b.take i) (by simp;omega) (fun y hy=>HB.out y (List.take_subset _ _ hy));have h3:256^i<=256^7:=Nat.pow_le_pow_right (by omega) (by omega);rw[hn.out] at h2;omega
   clear hx
   go_wp2
   go_round
   case rel=>exact⟨i+1,by omega,by go_num,by rw[show num (b.take (i+1))=n*256+x by rw[List.take_add_one,HX.out,<-hn.out];exact EL _ _];go_num⟩
   case measure=>simp[intOf];omega
  ·obtain rfl:i=m:=by omega
   go_wp2
   go_ret2
   exact⟨rfl,rfl⟩
theorem FT{b:List Nat}{v:Value}(w:World)(hv:F7 .u8 w v b)(hb:qk b)(hl:32<=b.length):
  Calls prog 245 #[v] w fun e w'=>e=.returned (.tuple #[.agg #[.int .u64 (qK b 3),.int .u64 (qK b 2),.int .u64 (qK b 1),.int .u64 (qK b 0)],.int .i64 0])/\Below w.heap.size w w':=by
 obtain⟨ao,cap,rfl,hc1,hc2,hc3,hc4⟩:=hv;obtain⟨g,o,rfl,hc5⟩:=hc4 (by omega);have hm1:=hc2;unfold maxLen at hm1
 have HG:=jh (fun(i:Nat) (hi:i<4) (x:Nat) (hx:qK b i=x) (v':Value) (hv':v'=.slice (some ⟨g,o+8*i,none⟩) (b.length-8*i) (cap-8*i)) (w1:World) (hb1:Below w.heap.size w w1)=>
  (show Calls prog 272 #[v',.int .i64 8] w1 fun e w'=>e=.returned (.tuple #[.int .u64 x,.int .i64 0])/\w1=w' from by
   subst hv' hx;have h:=RGet_any (m:=8) w1 ((F7.drop hc5 hc1 hc2 (8*i) (by omega)).later hb1) (fun y hy=>hb y (List.drop_subset _ _ hy)) (by omega) (by omega) (by simp;omega)
   exact h))
 clear hc4 hc5 hc3 hb hc2;obtain⟨y0,e0⟩:∃y,Hid (qK b 0=y):=⟨_,jh rfl⟩;obtain⟨y1,e1⟩:∃y,Hid (qK b 1=y):=⟨_,jh rfl⟩;obtain⟨y2,e2⟩:∃y,Hid (qK b 2=y):=⟨_,jh rfl⟩;obtain⟨y3,e3⟩:∃y,Hid (qK b 3=y):=⟨_,jh rfl⟩;rw[e0.out,e1.out,e2.out,e3.out]
 go_enter func245,ntmps245
 go_wp2
 refine wp_loop_rounds 5 ?_;rw[rounds_succ]
 go_wp2_with fail
 refine(HG.out 0 (by omega) y0 e0.out _ (by simp) _ (by repeat (first|exact U3|refine Below.alloc ?_ (by simp) _))).mono ?_;rintro e w1 ⟨rfl,rfl⟩
 go_wp2_with fail
 rw[rounds_succ]
 go_wp2_with fail
 refine(HG.out 1 (by omega) y1 e1.out _ (by simp) _ (by repeat (first|exact U3|refine Below.alloc ?_ (by simp) _))).mono ?_;rintro e w2 ⟨rfl,rfl⟩
 go_wp2_with fail
 rw[rounds_succ]
 go_wp2_with fail
 refine(HG.out 2 (by omega) y2 e2.out _ (by simp) _ (by repeat (first|exact U3|refine Below.alloc ?_ (by simp) _))).mono ?_;rintro e w3 ⟨rfl,rfl⟩
 go_wp2_with fail
 rw[rounds_succ]
 go_wp2_with fail
 refine(HG.out 3 (by omega) y3 e3.out _ (by simp) _ (by repeat (first|exact U3|refine Below.alloc ?_ (by simp) _))).mono ?_;rintro e w4 ⟨rfl,rfl⟩
 go_wp2_with fail
 rw[rounds_succ]
 go_wp2_with fail
 exact bodyPost_ret (v:=.tuple #[.agg #[.int .u64 y3,.int .u64 y2,.int .u64 y1,.int .u64 y0],.int .i64 0]) (by simp[results,results245,go_sem]) rfl ⟨rfl,by repeat (first|exact U3|refine Below.alloc ?_ (by simp) _)⟩
end Go.Proofs.YtpkalgofejjggaaGreatDoor
