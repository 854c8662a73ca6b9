/- Layer 6's reference -/
import Derived.Test.YtpkalgofejjggaaGreatDoorBPBG18
import Derived.Test.YtpkalgofejjggaaGreatDoorBPBG19
import Derived.Lib.ConvBytes
set_option linter.unusedSimpArgs false
set_option linter.unusedVariables false
set_option maxHeartbeats 3000000
set_option maxRecDepth 20000
namespace Go.Proofs.YtpkalgofejjggaaGreatDoor
open Go.ChangeShapes Go.WideShapes Go.ChangeAt Go.RowKit Go.Proofs.Tryz
def zx(s:ByteArray):List Nat:=s.data.toList.map fun b=>b.toNat
theorem qM(s:ByteArray):(zx s).length=s.size:=by unfold zx;simp
theorem DL(s:ByteArray):qk (zx s):=fun x hx=>by
 unfold zx at hx;obtain⟨b,_,rfl⟩:=List.mem_map.1 hx;exact b.toNat_lt
theorem dN(w:World)(s:ByteArray)(e:TypeId):Below w.heap.size w (Lib.bytesWorld w e s):=
 ⟨rfl,rfl,rfl,by rw[Lib.bytesWorld_size];omega,fun g hg=>Lib.bytesWorld_at_old w e s g hg⟩
theorem wW(w:World)(s:ByteArray)(e:TypeId)(hs:s.size<=140737488355328):F7 .u8 (Lib.bytesWorld w e s) (.slice (some ⟨w.heap.size,0,none⟩) s.size (grownCap w s.size 0 e)) (zx s):=by
 have hl:=qM s;refine⟨_,_,by rw[hl],by rw[hl];exact grownCap_ge w s.size 0 e,grownCap_le_maxLen w s.size 0 e (by unfold maxLen;omega),(fun h=>by cases h),fun _=>⟨w.heap.size,0,rfl,fun i x hx=>?_⟩⟩;have hi:i<s.size:=by have:=(List.getElem?_eq_some_iff.1 hx).1;omega
 rw[Nat.zero_add,Lib.bytesWorld_cell w e s i hi];unfold zx at hx;rw[List.getElem?_map] at hx;obtain⟨b,hb,rfl⟩:=Option.map_eq_some_iff.1 hx;rw[List.getD_eq_getElem?_getD,hb]
 rfl
def enc(l:List Nat):List Nat:=be 4 l.length++l
def hdr(s:List Nat)(n:Nat):List Nat:=enc s++be 4 n
def qA(s:List Nat)(ls:List (List Nat)):List Nat:=hdr s ls.length++ls.flatMap enc
theorem NI{l:List Nat}(h:qk l):qk (enc l):=fun x hx=>by
 unfold enc at hx
 rcases List.mem_append.1 hx with hx|hx
 ·exact qN _ _ x hx
 ·exact h x hx
theorem zE(l:List Nat):(enc l).length=4+l.length:=by unfold enc;simp[jI]
theorem zD(l:List Nat)(n:Nat):(hdr l n).length=8+l.length:=by unfold hdr;simp[zE,jI];omega
theorem GI{ls:List (List Nat)}{i:Nat}{l:List Nat}(h:ls[i]?=some l):(ls.take (i+1)).flatMap enc=(ls.take i).flatMap enc++enc l:=by
 rw[List.take_add_one,h]
 simp
theorem ES(ls:List (List Nat))(i:Nat):((ls.take i).flatMap enc).length<=(ls.flatMap enc).length:=by
 conv=>rhs;rw[<-List.take_append_drop i ls,List.flatMap_append,List.length_append]
 omega
structure OfW(w wr:World)(OO S:Nat)(l:List Nat):Prop where
 sum:X8 wr S l
 row:wr.heap[OO]?=some (.cells (Array.replicate 32 (.int .u8 0)) 67 (0,0))
 below:Below w.heap.size w wr
 at9:OO=w.heap.size
 lt:OO<S
theorem OfW.later{w wr w':World}{OO S:Nat}{l:List Nat}(h:OfW w wr OO S l)(hb:Below wr.heap.size wr w'):OfW w w' OO S l:=
 ⟨h.sum.later hb,(hb.block _ (J6.1 h.row).1).trans h.row,jm h.below hb,h.at9,h.lt⟩
theorem OfW.wrote{w wr w':World}{OO S:Nat}{l l':List Nat}(h:OfW w wr OO S l)(hs:X8 w' S l')(hg:wr.grownBy w' (some S)):OfW w w' OO S l':=
 ⟨hs,(hg.block OO (J6.1 h.row).1 (fun e=>by have:=h.lt;injection e with e;omega)).trans h.row,h.below.grown hg h.below.size (fun k hk=>by have:=h.lt;have:=h.at9;injection hk with hk;omega),h.at9,h.lt⟩
theorem WQ{w w':World}{v:Value}{l:List Nat}{S:Nat}(h:Own w' w.heap.size v l)(hS:S<w.heap.size):v.ownBlock≠some S:=fun e=>by
 have:=(O1.lt h S e).1;omega
theorem Of_any{s:ByteArray}{g o cap:Nat}{vs:List Value}{ls:List (List Nat)}(w:World)(hP:Parts w g o vs ls)(hcap:ls.length<=cap)(hcm:cap<=maxLen)(hby:∀l∈ls,qk l)(hsz:(qA (zx s) ls).length<=1073741824):
  Calls prog 189 #[.string s,.slice (some ⟨g,o,none⟩) ls.length cap] w fun e w'=>e=.returned (.agg (jo .u8 (zr (qA (zx s) ls))).toArray)/\Below w.heap.size w w':=by
 have HP:=jh hP;have HBY:=jh hby;have I7:=jh hsz;have hm1:=hcm;unfold maxLen at hm1
 have hs1:s.size+8+(ls.flatMap enc).length<=1073741824:=by
  unfold qA at hsz;rw[List.length_append,zD,qM] at hsz;omega
 have SI:=jh hs1;have HCV:=jh (fun W:World=>Lib.run_convert_string_bytes (P:=prog) W 9 138 5 s underlying9 underlying138 underlying5);clear hP hby hsz
 go_enter func189,ntmps189
 go_upto_region 1 with fail
 obtain⟨w1,e1⟩:=je (w.alloc (.cells (Array.replicate 32 (.int .u8 0)) 67));have HB1:=jh (show Below w.heap.size w w1 by rw[e1];exact ja);have SA:=jh (show w1.heap.size=w.heap.size+1 by rw[e1];simp);have HR1:=jh (show w1.heap[w.heap.size]?=some (.cells (Array.replicate 32 (.int .u8 0)) 67 (0,0)) by rw[e1];exact jQ);have h9:(w.alloc (.cells #[.int .u8 0,.int .u8 0,.int .u8 0,.int .u8 0,.int .u8 0,.int .u8 0,.int .u8 0,.int .u8 0,.int .u8 0,.int .u8 0,.int .u8 0,.int .u8 0,.int .u8 0,.int .u8 0,.int .u8 0,.int .u8 0,.int .u8 0,.int .u8 0,.int .u8 0,.int .u8 0,.int .u8 0,.int .u8 0,.int .u8 0,.int .u8 0,.int .u8 0,.int .u8 0,.int .u8 0,.int .u8 0,.int .u8 0,.int .u8 0,.int .u8 0,.int .u8 0] 67))=w1:=e1.symm;rw[h9];clear h9 e1;obtain⟨OO,KJ⟩:=je (w.heap.size);rw[<-KJ] at SA HR1⊢;have oC:=jh KJ;clear KJ
 go_wp2_with fail
 refine(New_any w1).mono ?_;rintro _ w2 ⟨S,rfl,hS,hs2,hb2⟩;have HW:=jh (show OfW w w2 OO S [] from⟨hs2,(hb2.block OO (by have:=SA.out;omega)).trans HR1.out,jm HB1.out hb2,oC.out,by have:=SA.out;omega⟩);clear hS hs2 hb2;have hcv:=HCV.out
 go_wp2_with fail
 obtain⟨w3,e3⟩:=je (Lib.bytesWorld w2 5 s);have HW:=jh (show OfW w w3 OO S [] by rw[e3];exact HW.out.later (dN _ _ _));have hk3:=wW w2 s 5 (by omega);obtain⟨c9,wX⟩:=je (grownCap w2 s.size 0 5);obtain⟨g9,S9⟩:=je (w2.heap.size);rw[<-e3,<-wX,<-S9] at hk3;rw[<-e3,<-wX,<-S9];have HK3:=jh hk3;clear e3 hk3 wX S9 hcv HCV;refine(KT w3 (F7.nil _ _) HK3.out (by simp[qM];omega)).mono ?_;rintro _ w4 ⟨v4,rfl,AO,hb4⟩;have BN:=jh (HW.out.later hb4);have vJ:=jh AO;have hlt4:=HW.out.sum.lt;clear hb4 AO
 go_wp2_with fail
 refine(eF w4 BN.out.sum vJ.out.at_ (fun _=>WQ vJ.out hlt4) (by rw[List.nil_append];exact NI (DL s)) (by have:=I7.out;have:=SI.out;simp[jI,zE,qM,zD];omega)).mono ?_;rintro _ w5 ⟨rfl,hs,hg⟩;have HW:=jh (show OfW w w5 OO S (enc (zx s)) by have h9:=BN.out.wrote hs hg;simpa[enc,hdr] using h9);clear hs hg BN vJ hlt4
 go_wp2_with fail
 refine(kK w5 (F7.nil _ _) ls.length 4 (by omega) (by omega) (by simp)).mono ?_;rintro _ w6 ⟨v6,rfl,ho6,hb6⟩;rw[show many 4=4 from rfl] at ho6;have BN:=jh (HW.out.later hb6);have vJ:=jh ho6;have hlt6:=HW.out.sum.lt;clear hb6 ho6
 go_wp2_with fail
 refine(eF w6 BN.out.sum vJ.out.at_ (fun _=>WQ vJ.out hlt6) (by rw[List.nil_append];exact qN _ _) (by have:=I7.out;have:=SI.out;simp[jI,zE,qM,zD];omega)).mono ?_;rintro _ w7 ⟨rfl,hs,hg⟩;have HW:=jh (show OfW w w7 OO S (hdr (zx s) ls.length) by have h9:=BN.out.wrote hs hg;simpa[enc,hdr] using h9);clear hs hg BN vJ hlt6
 go_wp2_with fail
 go_loopw [22] (fun i wr=>∃i':Nat,i'<=ls.length/\i=.int .i64 i'/\Hid (OfW w wr OO S (hdr (zx s) ls.length++(ls.take i').flatMap enc))) (fun i _=>ls.length-(intOf i).toNat)
 case atStart=>exact⟨0,Nat.zero_le _,rfl,jh (by simpa using HW.out)⟩
 case round=>
  clear HW;obtain⟨i,hi,rfl,HW⟩:=hrel
  by_cases hlt:i<ls.length
  ·obtain⟨v,l,hv,hl,hc,hk⟩:=HP.out.2 i hlt;have hcr:=jj hc HW.out.below;have HKR:=jh (hk.later HW.out.below);have HK0:=jh hk;have HLI:=jh hl;have yC:=jh (HBY.out l (List.mem_of_getElem? hl))
   have HLE:=jh (show((ls.take i).flatMap enc).length+(4+l.length)<=(ls.flatMap enc).length by
    have h9:=ES ls (i+1);rw[GI hl,List.length_append,zE] at h9
    omega)
   obtain⟨ao,cp,rfl,k1,k2,k3,k4⟩:=hk;have G7:=jh hlt;have hli:(i:Int)<(ls.length:Int):=by omega
   have hll:l.length<=1073741824:=by have:=SI.out;have:=HLE.out;omega
   unfold maxLen at k2;clear hv hl hc k3 k4 hlt
   go_wp2_with fail
   refine(kK wr (F7.nil _ _) l.length 4 (by omega) (by omega) (by simp)).mono ?_;rintro _ w8 ⟨v8,rfl,ho8,hb8⟩;rw[show many 4=4 from rfl] at ho8;clear hcr;have BN:=jh (HW.out.later hb8);have vJ:=jh ho8;have hlt8:=HW.out.sum.lt;have HKR:=jh (HKR.out.later hb8);clear hb8 ho8
   go_wp2_with fail
   refine(eF w8 BN.out.sum vJ.out.at_ (fun _=>WQ vJ.out hlt8) (by rw[List.nil_append];exact qN _ _) (by have:=SI.out;have:=HLE.out;simp[jI,zD,qM] at*;omega)).mono ?_;rintro _ w9 ⟨rfl,hs,hg⟩;have HW5:=jh (BN.out.wrote hs hg);clear hs hg BN vJ hlt8
   go_wp2_with fail
   refine(eF w9 HW5.out.sum (HK0.out.later HW5.out.below) (fun hne e=>by
    obtain⟨ao9,cp9,e9,_,_,_,h4⟩:=HK0.out;obtain⟨b9,o9,e8,h5⟩:=h4 (List.length_pos_iff.2 hne);injection e9 with e9 _ _
    rw[e9,e8] at e;have e7:b9=S:=by injection e
    obtain⟨x9,iC⟩:∃x,l[0]?=some x:=⟨_,Jd (List.length_pos_iff.2 hne)⟩;have h7:=World.block_lt_of_cell? (a:=⟨b9,o9+0,none⟩) _ (h5 0 x9 iC);have h6:=HW5.out.lt;have h8:=HW5.out.at9;have h3:b9<w.heap.size:=h7
    omega) yC.out (by have:=SI.out;have:=HLE.out;simp[jI,zD,qM] at*;omega)).mono ?_
   rintro _ w10 ⟨rfl,hs,hg⟩;have HW6:=jh (show OfW w w10 OO S (hdr (zx s) ls.length++(ls.take (i+1)).flatMap enc) by have h9:=HW5.out.wrote hs hg;rw[GI HLI.out];simpa[enc,List.append_assoc] using h9);clear hs hg
   go_wp2_with fail
   go_roundw
   case rel=>exact⟨i+1,G7.out,by go_num,HW6⟩
   case measure=>simp[intOf];have:=G7.out;omega
  ·obtain rfl:i=ls.length:=by omega
   rw[List.take_length] at HW;clear hlt
   go_upto_region 10 with fail
   refine wp_region_lit ?_;have CH:=jh (Hash_any wr HW.out.sum (by have:=I7.out;unfold qA at this;omega))
   go_wp2_with fail
   refine CH.out.mono ?_;rintro _ w11 ⟨rfl,hb⟩;have HW7:=jh (HW.out.later hb);clear hb;dsimp only
   rename_i hK9
   refine hK9 _ _ ?_;clear hK9;have hszH:(prog.info? 67).map (·.size)=some (jo .u8 (zr (hdr (zx s) ls.length++ls.flatMap enc))).toArray.size:=by rw[qR];simp[js,jY]
   refine jV rfl _ _ _ rfl OO _ _ _ HW7.out.row rfl rfl hszH (by simp[js,jY]) (Jc _ _) ?_;obtain⟨w12,e12⟩:=je (w11.setRow OO (jo .u8 (zr (hdr (zx s) ls.length++ls.flatMap enc))).toArray);have hrow:w12.heap[OO]?=some (.cells (jo .u8 (zr (hdr (zx s) ls.length++ls.flatMap enc))).toArray 67 (0,0)):=by rw[e12];exact setRow_heap w11 OO _ _ _ _ HW7.out.row
   have HROW:=jh hrow;have HB12:=jh (show Below w.heap.size w w12 by rw[e12];exact below_setRow HW7.out.below (by have:=HW7.out.at9;omega) _);rw[<-e12];simp only[Act.put,pa,pb,pc];clear e12 hrow
   go_wp2_with fail
   exact bodyPost_ret (results_cell_row rfl _ w12 OO _ _ _ _ rfl HROW.out underlying67 rfl hszH) rfl ⟨rfl,HB12.out⟩
theorem gW(ls:List (List Nat)):ls.length<=(ls.flatMap enc).length:=by
 induction ls with
 |nil=>simp
 |cons l ls ih=>rw[List.flatMap_cons,List.length_append,zE,List.length_cons];omega
theorem aS{s:List Nat}{ls:List (List Nat)}(hs:qk s)(hl:∀l∈ls,qk l):qk (qA s ls):=fun x hx=>by
 unfold qA hdr at hx
 rcases List.mem_append.1 hx with hx|hx
 ·rcases List.mem_append.1 hx with hx|hx
  ·exact NI hs x hx
  ·exact qN _ _ x hx
 ·obtain⟨l,h1,h2⟩:=List.mem_flatMap.1 hx;exact NI (hl l h1) x h2
theorem Parts.on{w w':World}{g o:Nat}{vs:List Value}{ls:List (List Nat)}(h:Parts w g o vs ls)(hb:Below w.heap.size w w'):Parts w' g o vs ls:=
 ⟨h.1,fun i hi=>by obtain⟨v,l,h1,h2,h3,h4⟩:=h.2 i hi;exact⟨v,l,h1,h2,jj h3 hb,h4.later hb⟩⟩
theorem GZ{s:ByteArray}{g o cap n:Nat}{vs:List Value}{ls:List (List Nat)}(w:World)(hP:Parts w g o vs ls)(hn:n=ls.length)(hsz:(qA (zx s) ls).length<=190000):
  Calls prog 203 #[.string s,.slice (some ⟨g,o,none⟩) n cap] w fun e w'=>∃v',e=.returned v'/\Own w' w.heap.size v' (qA (zx s) ls)/\Below w.heap.size w w':=by
 have HP:=jh hP;have I7:=jh hsz;have hs1:s.size+8+(ls.flatMap enc).length<=190000:=by unfold qA at hsz;rw[List.length_append,zD,qM] at hsz;omega
 have hnb:n<=190000:=by rw[hn];have:=gW ls;omega
 have HN:=jh hn;have SI:=jh hs1;have hcv:∀W:World,_:=fun W:World=>Lib.run_convert_string_bytes (P:=prog) W 9 138 5 s underlying9 underlying138 underlying5
 clear hP hsz hn
 go_enter func203,ntmps203
 go_wp2_with fail
 obtain⟨w3,e3⟩:=je (Lib.bytesWorld w 5 s);have B:=jh (show Below w.heap.size w w3 by rw[e3];exact dN _ _ _);have hk3:=wW w s 5 (by omega);obtain⟨c9,wX⟩:=je (grownCap w s.size 0 5);obtain⟨g9,S9⟩:=je (w.heap.size);rw[<-e3,<-wX,<-S9] at hk3;rw[<-e3,<-wX,<-S9];have HK3:=jh hk3;clear e3 hk3 wX S9 hcv;refine(UF w3 (F7.nil _ _) HK3.out (by simp[qM];omega)).mono ?_;rintro _ w4 ⟨v4,rfl,AO,hb4⟩;have vJ:=jh (show Own w4 w.heap.size v4 (enc (zx s)) from Own.base AO B.out.size);have B:=jw B hb4;clear AO hb4 HK3
 go_wp2_with fail
 refine(NH w4 vJ.out.at_ n (by omega) 4 (by rw[zE,qM];omega)).mono ?_;rintro _ w5 ⟨v5,rfl,ho5,hb5⟩;have HO:=jh (show Own w5 w.heap.size v5 (hdr (zx s) ls.length) by rw[<-HN.out];exact Own.base ho5 B.out.size);have B:=jw B hb5;clear ho5 hb5 vJ
 go_wp2_with fail
 go_loopw [5,6] (fun v i wr=>∃i':Nat,i'<=n/\i=.int .i64 i'/\Hid (Own wr w.heap.size v (hdr (zx s) ls.length++(ls.take i').flatMap enc))/\Hid (Below w.heap.size w wr)) (fun _ i _=>n-(intOf i).toNat)
 case atStart=>exact⟨0,Nat.zero_le _,rfl,jh (by simpa using HO.out),B⟩
 case round=>
  clear HO B;obtain⟨i,hi,rfl,HO,B⟩:=hrel
  by_cases hlt:i<n
  ·obtain⟨wo,rfl⟩:∃wo:World,wo=wr:=⟨_,rfl⟩;obtain⟨v,l,hv,hl,hc,hk⟩:=HP.out.2 i (by have:=HN.out;omega);have hcr:=jj hc B.out;have HKR:=jh (hk.later B.out);have HFT:=jh (GI hl);have HFL:=jh (ES ls (i+1));have hllen:l.length<=(ls.flatMap enc).length:=by have h9:=HFL.out;rw[HFT.out,List.length_append,zE] at h9;omega
   have hli:((ls.take i).flatMap enc).length<=(ls.flatMap enc).length:=ES ls i;have O6:(i:Int)<(n:Int):=by omega
   clear hv hl hc hk hlt
   go_wp2_with fail
   refine(UF wo HO.out.at_ HKR.out (by rw[List.length_append,zD,qM];omega)).mono ?_;rintro _ w6 ⟨v6,rfl,ho6,hb6⟩;have HO6:=jh (Own.base ho6 B.out.size);have B6:=jw B hb6;clear ho6 hb6 hcr
   go_wp2_with fail
   go_roundw
   case rel=>exact⟨i+1,by omega,by go_num,jh (by rw[HFT.out,<-List.append_assoc];exact HO6.out),B6⟩
   case measure=>(simp[intOf]<;>omega)
  ·have hiI:¬(i:Int)<(n:Int):=by omega
   have hin:i=n:=by omega
   skip
   go_wp2_with fail
   go_ret
   exact⟨_,rfl,by unfold qA;have h9:=HO.out;rwa [List.take_of_length_le (by have:=HN.out;omega)] at h9,B.out⟩
theorem WW{s:ByteArray}{g o cap n:Nat}{vs:List Value}{ls:List (List Nat)}(w:World)(hP:Parts w g o vs ls)(hn:n=ls.length)(hby:∀l∈ls,qk l)(hsz:(qA (zx s) ls).length<=190000):
  Calls prog 128 #[.string s,.slice (some ⟨g,o,none⟩) n cap] w fun e w'=>e=.returned (.agg (jo .u8 (zr (qA (zx s) ls))).toArray)/\Below w.heap.size w w':=by
 have HP:=jh hP;have I7:=jh hsz;have HN:=jh hn;have HBY:=jh (aS (DL s) hby);obtain⟨D,hD⟩:=je (zr (qA (zx s) ls));have HDL:=jh (show D.length=32 by rw[hD];exact jY _);have HD:=jh hD;rw[<-hD];clear hP hsz hn hby hD
 go_enter func128,ntmps128
 go_upto_region 1 with fail
 obtain⟨w0,e0⟩:=je (w.alloc (.cells jC 67));obtain⟨R,hR⟩:=je (w.heap.size);have hb0:=jc e0;have SF:=jh (show Sf w R w0 from⟨by rw[e0];exact KA.zero w 32 _ rfl _ _ hR,by rw[e0,hR];exact Y0.new _ _ _ _,hb0,by rw[e0,hR];simp,by omega⟩);rw[<-e0,<-hR];have HP:=jh (Parts.on HP.out hb0);clear e0 hR hb0
 go_wp2_with fail
 refine(GZ w0 HP.out HN.out I7.out).mono ?_;rintro _ w1 ⟨v1,rfl,ho,hb⟩;have HO:=jh ho;have SF:=jh (SF.out.later hb);clear ho hb
 go_wp2_with fail
 refine(ROf5_any w1 HO.out.at_ HBY.out (by have:=I7.out;omega)).mono ?_;rintro _ w2 ⟨rfl,hb⟩;rw[<-HD.out];have SF:=jh (SF.out.later hb);have TH:=jh (iQ SF.out.c SF.out.f);obtain⟨cs,hcs⟩:=je (jo .u8 D);have HC:=jh hcs;have I5:Hid (cs.length=32):=jh (by rw[hcs,js,HDL.out]);have HCO:Hid (∀v∈cs,v.oneCell'=true):=jh (by rw[hcs];exact Jx _ _);rw[<-hcs];clear hcs hb
 go_wp2_with (refine wpList_store_mid rfl 67 _ _ rfl R 0 cs.toArray rfl rfl (by have:=TH.out;simpa[I5.out] using this) (by rw[List.size_toArray,I5.out];kernel_rfl) (all_oneCell_toArray HCO.out) ?_)
 refine bodyPost_ret (v:=.agg cs.toArray) (FD _ _ R _ results128 rfl (run_loadVar_mid _ _ _ _ cs _ (World.rangeAt_setCells_same _ _ _ _ (by have:=TH.out;simpa[I5.out] using this)) underlying67 rfl (by rw[I5.out];kernel_rfl))) rfl ⟨by rw[HC.out],?_⟩;exact Jz _ _ _ SF.out.below SF.out.le
end Go.Proofs.YtpkalgofejjggaaGreatDoor
