/- Layer 19's reference (wires) -/
import Derived.Test.YtpkalgofejjggaaGreatDoorBPBG28
import Derived.RangeFuncBox
set_option maxHeartbeats 4000000
set_option maxRecDepth 20000
namespace Go.Proofs.YtpkalgofejjggaaGreatDoor
open Go.ChangeShapes Go.WideShapes Go.ChangeAt Go.RowKit Go.Proofs.Tryz
def ZR(w:World)(S:Nat)(l:List Nat):Prop:=∃v,w.cell? ⟨S,0,none⟩=some v/\Y0 w S 2/\Own w (S+1) v l
theorem JW(W:World)(b c:Nat)(v:Value):W.grownBy (W.setCell ⟨b,c,none⟩ v) (some b):=⟨rfl,rfl,rfl,(KeepsWalks.setCell W _ v).size,fun k _ hk=>Below.heap_setCell _ _ _ k (fun e=>hk (by rw[e]))⟩
theorem below_grown{w w':World}(h:Below w.heap.size w w')(row:Option Nat):w.grownBy w' row:=⟨h.os,h.tape,h.output,h.size,fun i hi _=>h.block i hi⟩
theorem zy{w:World}{base e W n g:Nat}{v:Value}{xs:List Value}(h:O1 w base e W v n xs)(hg:v.ownBlock=some g):base<=g/\g<w.heap.size:=by
 obtain⟨_,h2⟩:=h
 rcases h2 with⟨rfl,_⟩|⟨g',o,cap,cur,rfl,hb,hh,_⟩
 ·cases hg
 ·cases hg
  exact⟨hb,(J6.1 hh).1⟩
theorem KG{S n k:Nat}{l:List Nat}(w:World)(h:ZR w S l)(hk:k<=8)(hsz:l.length<=100000):
  Calls prog 190 #[.pointer (some ⟨S,0,none⟩),.int .u64 n,.int .i64 k] w fun e w'=>e=.returned (.tuple #[])/\ZR w' S (l++be k n)/\w.grownBy w' (some S):=by
 obtain⟨v,hc,hf,ho⟩:=h;obtain⟨a0,n0,c0,rfl⟩:=ho.shape;have hlt:S<w.heap.size:=World.block_lt_of_cell? (a:=⟨S,0,none⟩) _ hc;have HP:=jh (kK w ho.at_ n k (by omega) (by omega) (by omega));have hm:many (k:Int)=k:=by unfold many;omega
 rw[hm] at HP;have hf0:=hf 0 (by decide);have HF:=jh hf;have HL:=jh hlt;have HC:=jh hc;clear ho hf hm hlt
 go_enter func190,ntmps190
 go_wp2_with (first
  |(go_at_call 232;refine(HP.out).mono ?_;rintro e w1 ⟨v1,rfl,ho,hb⟩;obtain⟨a1,n1,c1,rfl⟩:=ho.shape;have HO:=jh ho;have HB:=jh hb;have hc1:=jj HC.out hb;have hf1:=(hb.frozen (p:=⟨S,0,none⟩) HL.out).trans hf0;clear ho hb))
 go_end0
 have hS:S<w1.heap.size:=jv HL.out HB.out.size;refine⟨rfl,⟨_,World.cell?_setCell_same' w1 _ _ (by rw[hc1];rfl),fun j hj=>?_,O1.block (O1.base HO.out (Nat.succ_le_of_lt HL.out)) fun g hg=>(JW w1 S 0 _).block g (zy HO.out hg).2 fun e=>?_⟩,JV (below_grown HB.out _) (JW _ _ _ _)⟩
 ·rw[World.frozen?_setCell];exact(HB.out.frozen (p:=⟨S,j,none⟩) HL.out).trans (HF.out j hj)
 ·have h1:=(zy HO.out hg).1;have h2:=HL.out;injection e with e
  omega
theorem slice_h(g:Nat)(W:World):(Instr.sliceAt 67 (.pointer (some ⟨g,0,none⟩)) none none none).run prog W=.ok (.slice (some ⟨g,0,none⟩) 32 32) W:=by
 have e1:prog.arrayLen 67=32:=by kernel_rfl
 have e2:prog.elem 67=5:=by kernel_rfl
 have e3:(sizeOf (prog.elem 67)).run prog W=.ok 1 W:=by
  rw[e2]
  go_simp
 rw[run_sliceAt_array_all W _ _ (by kernel_rfl),e3];unfold slicedAt;simp only[e1]
 show Result.ok _ W=_
 rw[if_neg (by omega)]
 simp[Addr.add_lit]
theorem zO{S:Nat}{w w':World}{row:Option Nat}(h:w.grownBy w' row)(hr:∀g,row=some g->S<=g)(hS:S<=w.heap.size):Below S w w':=
 ⟨h.os,h.tape,h.output,h.size,fun k hk=>h.block k (jv hk hS) fun e=>by have:=hr k e.symm;omega⟩
theorem whash_any{S:Nat}{l h:List Nat}(w:World)(hw:ZR w S l)(hl:h.length=32)(hsz:l.length<=100000):
  Calls prog 191 #[.pointer (some ⟨S,0,none⟩),.agg (jo .u8 h).toArray] w fun e w'=>e=.returned (.tuple #[])/\ZR w' S (l++h)/\Below S w w':=by
 obtain⟨v,hc,hf,ho⟩:=hw;obtain⟨i0,hi,hz0,hz1,hz2⟩:=info_parts KF;have HI:=jh hi;obtain⟨ao,cap,rfl,q1,q2,q3, -⟩:=ho.at_;have hlt:S<w.heap.size:=World.block_lt_of_cell? (a:=⟨S,0,none⟩) _ hc;obtain⟨T,hT⟩:=je ((jo .u8 h).toArray);have kC:(prog.info? 67).map (·.size)=some T.size:=by rw[qR,hT];simp[js,hl]
 have YA:=jh (fun(W:World) (hb:Below (w.alloc (.cells T 67)).heap.size (w.alloc (.cells T 67)) W)=>O1.later (O1.later ho ((Below.refl _ w).alloc (Nat.le_refl _) (.cells T 67))) hb)
 have HS:=jh (fun(W:World) (hb:Below (w.alloc (.cells T 67)).heap.size (w.alloc (.cells T 67)) W)=>F7.src (k:=.u8) (l:=h) (v:=.slice (some ⟨w.heap.size,0,none⟩) h.length 32) (w:=W) ⟨_,32,rfl,by omega,by decide,(fun q=>by cases q),fun _=>⟨w.heap.size,0,rfl,fun i x hx=>by
  refine jj ?_ hb;rw[Nat.zero_add,cell_of_row _ _ _ _ _ _ jQ,hT]
  simp[qC,hx]⟩⟩)
 have HF:=jh hf;have HL:=jh hlt;have HC:=jh hc;have HSL:=jh hsz;have bU:=jh hl;have sl:=slice_h w.heap.size;rw[<-hT];rw[hl] at HS;clear hc hf ho hi hl hsz hT q1 q2 q3 hlt
 go_enter func191,ntmps191
 go_upto_region 1 with fail
 obtain⟨w1,e1⟩:=je (w.alloc (.cells T 67));have hs1:w1.heap.size=w.heap.size+1:=by rw[e1];simp
 have hb1:=jc e1;rw[<-e1] at YA HS⊢;have hc1:=jj HC.out hb1;have HB1:=jh hb1;have fA:=jh hs1;clear e1 hb1 hs1;have hbs:S+1<=w1.heap.size:=by have:=HL.out;have:=fA.out;omega
 go_region_law (first
  |(refine JI rfl (.tmp 8) (.tmp 9) 138 rfl (S+1) 5 i0 (.int .u8 0) 1 1 underlying138 HI.out hz0 hz1 hz2 rfl (.slice ao l.length cap) l.length (jo .u8 l) rfl (YA.out _ U3.drew) (.slice (some ⟨w.heap.size,0,none⟩) 32 32) 32 (jo .u8 h) rfl (HS.out _ U3.drew) (by have:=HSL.out;unfold maxLen;omega) (by have:=HSL.out;omega) (by simpa using hbs) ?_
    intro v2 w2 ho2 hg2 hl2;obtain⟨a2,c2,rfl⟩:=ho2.sl;have hns:∀g,(Value.slice ao l.length cap).ownBlock=some g->S+1<=g:=fun g hg=>(zy (YA.out _ U3) hg).1
    have hb2:=zO (S:=S+1) hg2 hns (by simpa using hbs);have hc2:w2.cell? ⟨S,0,none⟩=some (.slice ao l.length cap):=(World.cell?_of_block (w:=w1) (hb2.block S (Nat.lt_succ_self S))).trans hc1;have hq2:w2.heap[S]?=w.heap[S]?:=(hb2.block S (Nat.lt_succ_self S)).trans (HB1.out.block S HL.out);have hf2:w2.frozen? ⟨S,0,none⟩=false:=(qI hq2).trans (HF.out 0 (by decide));have D9:=jh ho2;have HB2:=jh hb2;have HQ2:=jh hq2
    clear ho2 hg2 hl2 hns hb2 hq2))
 all_goals
  go_end0
  have hb1:=HB1.out;have hL:=HL.out;have hs2:S<w2.heap.size:=World.block_lt_of_cell? (a:=⟨S,0,none⟩) _ hc2;have hb2:Below (S+1) w1 w2:=⟨HB2.out.os,HB2.out.tape,HB2.out.output,HB2.out.size,HB2.out.block⟩;refine⟨rfl,⟨_,World.cell?_setCell_same' w2 _ _ (by rw[hc2];rfl),fun j hj=>?_,?_⟩,?_⟩
  ·rw[World.frozen?_setCell];exact(qI HQ2.out).trans (HF.out j hj)
  ·have hown:Own w2 (S+1) (.slice a2 (l.length+32) c2) (l++h):=by
    have h9:=D9.out;unfold Own;rw[List.length_append,bU.out];unfold jo at h9⊢
    simpa using h9
   refine O1.block hown fun g hg=>(JW w2 S 0 _).block g (zy hown hg).2 fun e=>?_
   have h1:=(zy hown hg).1;injection e with e
   omega
  ·exact((hb1.mono (Nat.le_of_lt hL)).trans (hb2.mono (Nat.le_succ S))).trans (zO (JW w2 S 0 _) (fun g e=>by cases e;exact Nat.le_refl _) (Nat.le_of_lt hs2))
theorem ED{w w':World}{B S:Nat}{L:List Value}(h:w.rangeAt B 0 L)(hg:w.grownBy w' (some S))(hne:B≠S)(hB:B<w.heap.size):w'.rangeAt B 0 L:=fun j u hj=>
 (World.cell?_of_block (w:=w) (hg.block B hB (fun e=>hne (by injection e)))).trans (h j u hj)
theorem wvote_any{S k e v n c s:Nat}{l h:List Nat}(w:World)(hw:ZR w S l)(hl:h.length=32)(hk:k<256)(hv:v<4294967296)(hn:n<256)(hsz:l.length<=90000):
  Calls prog 119 #[.pointer (some ⟨S,0,none⟩),qU k e v n h c s] w fun r w'=>r=.returned (.tuple #[])/\ZR w' S (l++JF k e v n h)/\Below S w w':=by
 have hlt:S<w.heap.size:=by
  obtain⟨_,hc,_⟩:=hw;exact World.block_lt_of_cell? (a:=⟨S,0,none⟩) _ hc
 have k1:IntKind.u64.wrap (k:Int)=k:=by rw[Qw,Nat.mod_eq_of_lt (by omega)]
 have v1:IntKind.u64.wrap (v:Int)=v:=by rw[Qw,Nat.mod_eq_of_lt (by omega)]
 have n1:IntKind.u64.wrap (n:Int)=n:=by rw[Qw,Nat.mod_eq_of_lt (by omega)]
 obtain⟨T,hT⟩:=je ((jM k e v n h c s).toArray);have kC:(prog.info? 71).map (·.size)=some T.size:=by rw[qg,hT];simp[qz hl]
 obtain⟨w1,e1⟩:=je (w.alloc (.cells T 71));have hs1:w1.heap.size=w.heap.size+1:=by rw[e1];simp
 have hb1:=jc e1;have hr1:w1.rangeAt w.heap.size 0 (jM k e v n h c s):=by rw[e1,hT];exact JT _ _ _
 have hW1:ZR w1 S l:=by
  obtain⟨u,hc,hf,ho⟩:=hw;exact⟨u,jj hc hb1,hf.later hb1 hlt,Own.later ho hb1⟩
 have HR1:=jh hr1;have HB1:=jh hb1;have G7:=jh hlt;have bU:=jh hl;have fA:=jh hs1;have HV:=jh hT;obtain⟨B,hB⟩:=je (w.heap.size);have HBN:=jh (show B≠S by omega);have UH:=jh (show B<w1.heap.size by omega);have q0:w1.cell? ⟨B,0,none⟩=some (.int .u8 k):=by rw[hB];exact Qp hr1
 have SA:=jh (KG (n:=k) (k:=1) w1 hW1 (by decide) (by omega));rw[<-hB] at HR1;have MC:=jh hB;unfold qU;rw[<-hT];have I7:=jh hsz;clear hT hW1 hr1 hb1 hs1 hlt hw hl hsz hk hv hn
 go_enter func119,ntmps119
 go_upto_region 1 with fail
 rw[<-e1,<-hB];clear e1 hB
 go_upto_region 2 with(first|(go_at_call 190;refine(SA.out).mono ?_;rintro _ w2 ⟨rfl,hw,hg⟩;have HW2:=jh hw;have HG2:=jh hg;clear hw hg))
 have HR2:=jh (ED HR1.out HG2.out HBN.out UH.out);have HBL2:=jh (jv UH.out HG2.out.size);have q2:w2.cell? ⟨B,1,none⟩=some (.int .u64 e):=EQ HR2.out;have WC:=jh (KG (n:=e) (k:=8) w2 HW2.out (by decide) (by have:=I7.out;simp only[List.length_append,jI];omega))
 go_upto_region 3 with(first|(go_at_call 190;refine(WC.out).mono ?_;rintro _ w3 ⟨rfl,hw,hg⟩;have HW3:=jh hw;have mX:=jh hg;clear hw hg))
 have HR3:=jh (ED HR2.out mX.out HBN.out HBL2.out);have HBL3:=jh (jv HBL2.out mX.out.size);have q3:w3.cell? ⟨B,2,none⟩=some (.int .u32 v):=Qf HR3.out;have HN3:=jh (KG (n:=v) (k:=4) w3 HW3.out (by decide) (by have:=I7.out;simp only[List.length_append,jI];omega))
 go_upto_region 4 with(first|(go_at_call 190;refine(HN3.out).mono ?_;rintro _ w4 ⟨rfl,hw,hg⟩;have BN:=jh hw;have HG4:=jh hg;clear hw hg))
 have HR4:=jh (ED HR3.out HG4.out HBN.out HBL3.out);have HBL4:=jh (jv HBL3.out HG4.out.size);have q4:w4.cell? ⟨B,3,none⟩=some (.int .u8 n):=Zq HR4.out;have HN4:=jh (KG (n:=n) (k:=1) w4 BN.out (by decide) (by have:=I7.out;simp only[List.length_append,jI];omega))
 go_upto_region 5 with(first|(go_at_call 190;refine(HN4.out).mono ?_;rintro _ w5 ⟨rfl,hw,hg⟩;have HW5:=jh hw;have nK:=jh hg;clear hw hg))
 have lK:=jh (ED HR4.out nK.out HBN.out HBL4.out);have ls:=JO lK.out bU.out;have HX:=jh (whash_any w5 HW5.out bU.out (by have:=I7.out;simp only[List.length_append,jI];omega));refine wp_region_lit ?_;refine jL (jP S 0) ?_;refine jL (jP B 4) ?_;refine jL _ ?_ (jd ls)
 go_wp2_with (first|(go_at_call 191;refine(HX.out).mono ?_;rintro _ w6 ⟨rfl,hw,hg⟩;have HW6:=jh hw;have IX:=jh hg;clear hw hg))
 go_end0
 have hS:=G7.out;have hS1:=fA.out;have g2:=zO HG2.out (fun g e=>by cases e;exact Nat.le_refl _) (by omega);have g3:=zO mX.out (fun g e=>by cases e;exact Nat.le_refl _) (by have:=g2.size;omega);have g4:=zO HG4.out (fun g e=>by cases e;exact Nat.le_refl _) (by have:=g2.size;have:=g3.size;omega);have g5:=zO nK.out (fun g e=>by cases e;exact Nat.le_refl _) (by have:=g2.size;have:=g3.size;have:=g4.size;omega);refine⟨rfl,?_,(HB1.out.mono (Nat.le_of_lt hS)).trans (g2.trans (g3.trans (g4.trans (g5.trans IX.out))))⟩;have h9:=HW6.out;unfold JF
 simpa only[List.append_assoc] using h9
theorem wfn_any{S B k e v n c s:Nat}{l h:List Nat}(w:World)(hw:ZR w S l)(hr:w.rangeAt B 0 (jM k e v n h c s))(hl:h.length=32)(hk:k<256)(hv:v<4294967296)(hn:n<256)(hsz:l.length<=90000):
  Calls prog 118 #[.pointer (some ⟨S,0,none⟩),.pointer (some ⟨B,0,none⟩)] w fun r w'=>r=.returned (.tuple #[])/\ZR w' S (l++JF k e v n h)/\Below S w w':=by
 have HX:=jh (wvote_any (e:=e) (c:=c) (s:=s) w hw hl hk hv hn hsz);have lv:=DR hr hl;obtain⟨T,hT⟩:=je (qU k e v n h c s);rw[<-hT] at HX lv;have LV:=jh lv;clear hT hw hr hl hk hv hn hsz lv
 go_enter func118,ntmps118
 go_upto_region 0 with fail
 refine wp_region_lit ?_;refine jL (jP S 0) ?_;refine jL _ ?_ (jd LV.out)
 go_wp2_with (first|(go_at_call 119;refine(HX.out).mono ?_;rintro _ w6 ⟨rfl,hw,hg⟩;have HW6:=jh hw;have IX:=jh hg;clear hw hg))
 go_end0
 exact⟨rfl,HW6.out,IX.out⟩
def votesB:List Nat:=zx ⟨#[118,111,116,101]⟩
def Jo(k e v n:Nat)(h:List Nat):List Nat:=zr (qA votesB [JF k e v n h])
theorem MG{k e v n:Nat}{h:List Nat}(hl:h.length=32):(JF k e v n h).length=46:=by simp[JF,jI,hl]
theorem bZ{B k e v n c s:Nat}{h:List Nat}(w:World)(hr:w.rangeAt B 0 (jM k e v n h c s))(hB:B<w.heap.size)(hl:h.length=32)(hby:qk h)(hk:k<256)(hv:v<4294967296)(hn:n<256):
  Calls prog 117 #[.string ⟨#[118,111,116,101]⟩,.func (.func 118) #[] #[.pointer (some ⟨B,0,none⟩)]] w fun r w'=>r=.returned (.agg (jo .u8 (Jo k e v n h)).toArray)/\Below w.heap.size w w':=by
 have HR:=jh hr
 have hbv:qk (JF k e v n h):=by
  unfold JF;intro x hx;simp only[List.mem_append] at hx
  rcases hx with hx|hx|hx|hx|hx
  ·exact qN _ _ x hx
  ·exact qN _ _ x hx
  ·exact qN _ _ x hx
  ·exact qN _ _ x hx
  ·exact hby x hx
 have HBV:=jh hbv;obtain⟨T,hT⟩:=je ((jo .u8 (Jo k e v n h)).toArray);have hTs:T.size=32:=by rw[hT];simp[js,Jo,jY]
 have h1T:T.all (·.oneCell')=true:=by rw[hT];exact Jc _ _
 have HTT:=jh hT;have VT:=jh hTs;have HT1:=jh h1T;rw[<-hT];clear hr hbv hby hT hTs h1T
 go_enter func117,ntmps117
 go_upto_region 1 with fail
 obtain⟨w1,e1⟩:=je (w.alloc (.cells jC 67));have hs1:w1.heap.size=w.heap.size+1:=by rw[e1];simp
 have hb1:=jc e1;have hh1:=heap_alloc_new w (.cells #[.int .u8 0,.int .u8 0,.int .u8 0,.int .u8 0,.int .u8 0,.int .u8 0,.int .u8 0,.int .u8 0,.int .u8 0,.int .u8 0,.int .u8 0,.int .u8 0,.int .u8 0,.int .u8 0,.int .u8 0,.int .u8 0,.int .u8 0,.int .u8 0,.int .u8 0,.int .u8 0,.int .u8 0,.int .u8 0,.int .u8 0,.int .u8 0,.int .u8 0,.int .u8 0,.int .u8 0,.int .u8 0,.int .u8 0,.int .u8 0,.int .u8 0,.int .u8 0] 67);rw[<-e1] at hh1;obtain⟨H,hH⟩:=je (w.heap.size);rw[<-hH] at hh1;rw[<-e1,<-hH];have HH1:=jh hh1;have fA:=jh hs1;have HB1:=jh hb1;have HHH:=jh hH;clear e1 hh1 hs1 hb1 hH
 go_upto_region 2 with fail
 obtain⟨w2,e2⟩:=je (w1.alloc (.cells #[.slice none 0 0,.bool false] 268));have hs2:w2.heap.size=w1.heap.size+1:=by rw[e2];simp
 have hb2:=jc e2;have hW2:ZR w2 w1.heap.size []:=⟨.slice none 0 0,by rw[e2,cell_of_row _ _ _ _ _ _ jQ];rfl,by rw[e2];exact Y0.new _ _ _ _,⟨by simp[jo],.inl ⟨rfl,rfl⟩⟩⟩;obtain⟨S,hS⟩:=je (w1.heap.size);rw[<-hS] at hW2;rw[<-e2,<-hS];have HW2:=jh hW2;have HS2:=jh hs2;have HB2:=jh hb2;have HSS:=jh hS;have UH:=jh hB;have bU:=jh hl;have HK:=jh hk;have HV:=jh hv;have HN:=jh hn;clear e2 hW2 hs2 hb2 hS hB hl hk hv hn
 go_wp2_with fail
 refine(wfn_any w2 HW2.out (ju (ju HR.out HB1.out) HB2.out) bU.out HK.out HV.out HN.out (by simp)).mono ?_;rintro _ w3 ⟨rfl,hw3,hb3⟩;obtain⟨v3,hc3, -,ho3⟩:=hw3;obtain⟨ao,cap,rfl,q1,q2,q3, -⟩:=ho3.at_;have UJ:=jh ho3;have HB3:=jh hb3;clear ho3 hb3 q3
 go_wp2_with fail
 have hP:Parts (w3.alloc (.cells #[.slice ao (JF k e v n h).length cap] 138)) w3.heap.size 0 [.slice ao (JF k e v n h).length cap] [JF k e v n h]:=⟨rfl,fun i hi=>by
  obtain rfl:i=0:=by simp at hi;exact hi
  exact⟨_,_,rfl,rfl,by simp,UJ.out.at_.later (ja)⟩⟩
 refine(Of_any (s:=⟨#[118,111,116,101]⟩) (cap:=1) _ hP (by simp) (by unfold maxLen;decide) (fun l fJ=>by simp only[List.mem_singleton] at fJ;subst fJ;exact HBV.out) (by have:=MG (k:=k) (e:=e) (v:=v) (n:=n) bU.out;unfold qA hdr;simp[jI,enc,this];decide)).mono ?_;rw[show zr (qA (zx ⟨#[118,111,116,101]⟩) [JF k e v n h])=Jo k e v n h from rfl,<-HTT.out];rintro _ w5 ⟨rfl,hb5⟩;obtain⟨w4,e4⟩:=je (w3.alloc (.cells #[.slice ao (JF k e v n h).length cap] 138));have hb4:=jc e4;rw[<-e4] at hb5;have z1:=fA.out;have z2:=HS2.out;have z3:=HB3.out.size;have z4:=hb4.size;have zS:=HSS.out;have zH:=HHH.out;have hH5:=(hb5.block H (by omega)).trans ((hb4.block H (by omega)).trans ((HB3.out.block H (by omega)).trans ((HB2.out.block H (by omega)).trans HH1.out)));have hB5:Below w.heap.size w w5:=HB1.out.trans ((HB2.out.mono (by omega)).trans ((HB3.out.mono (by omega)).trans ((hb4.mono (by omega)).trans (hb5.mono (by omega)))));have HH5:=jh hH5;have dO:=jh hB5;have HZ:=jh (show w.heap.size<=H by omega);have kC:(prog.info? 67).map (·.size)=some T.size:=by rw[qR,VT.out]
 clear z1 z2 z3 z4 zS zH hH5 hB5 hb5 hb4 e4 hP hc3 q1 q2;dsimp only
 go_step
 refine jV rfl _ _ _ rfl H _ _ _ HH5.out rfl rfl kC (by rw[VT.out];rfl) HT1.out ?_;simp only[Act.put]
 go_wp2_with fail
 obtain⟨w9,e9⟩:=je (w5.setRow H T);have L8:w9.heap[H]?=some (.cells T 67 (0,0)):=by rw[e9];exact setRow_heap _ _ _ _ _ _ HH5.out
 have L6:Below w.heap.size w w9:=by rw[e9];exact below_setRow dO.out HZ.out _
 rw[<-e9];exact bodyPost_ret (results_cell_row rfl _ w9 H _ _ _ _ rfl L8 underlying67 rfl kC) rfl ⟨rfl,L6⟩
theorem WVote_any{k e v n c s:Nat}{h:List Nat}(w:World)(hl:h.length=32)(hby:qk h)(hk:k<256)(hv:v<4294967296)(hn:n<256):
  Calls prog 42 #[qU k e v n h c s] w fun r w'=>r=.returned (.agg (jo .u8 (Jo k e v n h)).toArray)/\Below w.heap.size w w':=by
 obtain⟨V,hV⟩:=je ((jM k e v n h c s).toArray);have N9:(prog.info? 71).map (·.size)=some V.size:=by rw[qg,hV];simp[qz hl]
 have HV9:=jh hV;unfold qU;rw[<-hV];have HX:=jh (fun(W:World) (B:Nat) (hr:W.rangeAt B 0 (jM k e v n h c s)) (hB:B<W.heap.size)=>bZ W hr hB hl hby hk hv hn);obtain⟨T,hT⟩:=je ((jo .u8 (Jo k e v n h)).toArray);have hTs:T.size=32:=by rw[hT];simp[js,Jo,jY]
 have h1T:T.all (·.oneCell')=true:=by rw[hT];exact Jc _ _
 have HTT:=jh hT;have VT:=jh hTs;have HT1:=jh h1T;rw[<-hT] at HX⊢;clear hV hT hTs h1T hby hk hv hn hl
 go_enter func42,ntmps42
 go_upto_region 1 with fail
 obtain⟨w1,e1⟩:=je (w.alloc (.cells V 71));have hs1:w1.heap.size=w.heap.size+1:=by rw[e1];simp
 have hb1:=jc e1;have hr1:w1.rangeAt w.heap.size 0 (jM k e v n h c s):=by rw[e1,HV9.out];exact JT _ _ _
 obtain⟨w2,e2⟩:=je (w1.alloc (.cells jC 67));have hs2:w2.heap.size=w1.heap.size+1:=by rw[e2];simp
 have hb2:=jc e2;have hh2:w2.heap[w.heap.size+1]?=some (.cells #[.int .u8 0,.int .u8 0,.int .u8 0,.int .u8 0,.int .u8 0,.int .u8 0,.int .u8 0,.int .u8 0,.int .u8 0,.int .u8 0,.int .u8 0,.int .u8 0,.int .u8 0,.int .u8 0,.int .u8 0,.int .u8 0,.int .u8 0,.int .u8 0,.int .u8 0,.int .u8 0,.int .u8 0,.int .u8 0,.int .u8 0,.int .u8 0,.int .u8 0,.int .u8 0,.int .u8 0,.int .u8 0,.int .u8 0,.int .u8 0,.int .u8 0,.int .u8 0] 67 (0,0)):=by rw[<-hs1,e2];exact jQ
 have hr2:=ju hr1 hb2;rw[<-e1,<-e2];have HR:=jh hr2;have HH2:=jh hh2;have HB2:=jh (hb1.trans (hb2.mono (by omega)));have HS2:=jh (show w2.heap.size=w.heap.size+1+1 by omega);clear e1 e2 hs1 hs2 hb1 hb2 hr1 hr2 hh2;obtain⟨B,hB⟩:=je (w.heap.size);obtain⟨H,hH⟩:=je (B+1);rw[<-hB] at HR HH2 HS2⊢;rw[<-hH] at HH2⊢;have MC:=jh hB;have HHH:=jh hH;clear hB hH
 go_wp2_with fail
 refine(HX.out w2 B HR.out (by have:=HS2.out;omega)).mono ?_;rintro _ w5 ⟨rfl,hb5⟩;have zS:=HS2.out;have zH:=HHH.out;have zB:=MC.out;have HH5:=jh ((hb5.block H (by omega)).trans HH2.out);have dO:=jh (HB2.out.trans (hb5.mono (by omega)));have HZ:=jh (show B<=H by omega);have kC:(prog.info? 67).map (·.size)=some T.size:=by rw[qR,VT.out]
 clear zS zH zB hb5;dsimp only
 go_step
 refine jV rfl _ _ _ rfl H _ _ _ HH5.out rfl rfl kC (by rw[VT.out];rfl) HT1.out ?_;simp only[Act.put]
 go_wp2_with fail
 obtain⟨w9,e9⟩:=je (w5.setRow H T);have L8:w9.heap[H]?=some (.cells T 67 (0,0)):=by rw[e9];exact setRow_heap _ _ _ _ _ _ HH5.out
 have L6:Below w.heap.size w w9:=by rw[e9];exact below_setRow dO.out (by have:=MC.out;have:=HZ.out;omega) _
 rw[<-e9];exact bodyPost_ret (results_cell_row rfl _ w9 H _ _ _ _ rfl L8 underlying67 rfl kC) rfl ⟨rfl,L6⟩
theorem VG{S n k:Nat}{l:List Nat}(w:World)(h:ZR w S l)(hn:n<18446744073709551616)(hk:k<=8)(hsz:l.length<=100000):
  Calls prog 200 #[.pointer (some ⟨S,0,none⟩),.int .u64 n,.int .i64 k] w fun e w'=>e=.returned (.tuple #[])/\ZR w' S (l++be k n)/\w.grownBy w' (some S):=by
 obtain⟨v,hc,hf,ho⟩:=h;obtain⟨a0,n0,c0,rfl⟩:=ho.shape;have hlt:S<w.heap.size:=World.block_lt_of_cell? (a:=⟨S,0,none⟩) _ hc;have HP:=jh (NH w ho.at_ n hn k (by omega));have hm:many (k:Int)=k:=by unfold many;omega
 rw[hm] at HP;have hf0:=hf 0 (by decide);have HF:=jh hf;have HL:=jh hlt;have HC:=jh hc;clear ho hf hm hlt hn
 go_enter func200,ntmps200
 go_wp2_with (first
  |(go_at_call 247;refine(HP.out).mono ?_;rintro e w1 ⟨v1,rfl,ho,hb⟩;obtain⟨a1,n1,c1,rfl⟩:=ho.shape;have HO:=jh ho;have HB:=jh hb;have hc1:=jj HC.out hb;have hf1:=(hb.frozen (p:=⟨S,0,none⟩) HL.out).trans hf0;clear ho hb))
 go_end0
 have hS:S<w1.heap.size:=jv HL.out HB.out.size;refine⟨rfl,⟨_,World.cell?_setCell_same' w1 _ _ (by rw[hc1];rfl),fun j hj=>?_,O1.block (O1.base HO.out (Nat.succ_le_of_lt HL.out)) fun g hg=>(JW w1 S 0 _).block g (zy HO.out hg).2 fun e=>?_⟩,JV (below_grown HB.out _) (JW _ _ _ _)⟩
 ·rw[World.frozen?_setCell];exact(HB.out.frozen (p:=⟨S,j,none⟩) HL.out).trans (HF.out j hj)
 ·have h1:=(zy HO.out hg).1;have h2:=HL.out;injection e with e
  omega
theorem rhash_any{S:Nat}{l h:List Nat}(w:World)(hw:ZR w S l)(hl:h.length=32)(hsz:l.length<=100000):
  Calls prog 201 #[.pointer (some ⟨S,0,none⟩),.agg (jo .u8 h).toArray] w fun e w'=>e=.returned (.tuple #[])/\ZR w' S (l++h)/\Below S w w':=by
 obtain⟨v,hc,hf,ho⟩:=hw;obtain⟨i0,hi,hz0,hz1,hz2⟩:=info_parts KF;have HI:=jh hi;obtain⟨ao,cap,rfl,q1,q2,q3, -⟩:=ho.at_;have hlt:S<w.heap.size:=World.block_lt_of_cell? (a:=⟨S,0,none⟩) _ hc;obtain⟨T,hT⟩:=je ((jo .u8 h).toArray);have kC:(prog.info? 67).map (·.size)=some T.size:=by rw[qR,hT];simp[js,hl]
 have YA:=jh (fun(W:World) (hb:Below (w.alloc (.cells T 67)).heap.size (w.alloc (.cells T 67)) W)=>O1.later (O1.later ho ((Below.refl _ w).alloc (Nat.le_refl _) (.cells T 67))) hb)
 have HS:=jh (fun(W:World) (hb:Below (w.alloc (.cells T 67)).heap.size (w.alloc (.cells T 67)) W)=>F7.src (k:=.u8) (l:=h) (v:=.slice (some ⟨w.heap.size,0,none⟩) h.length 32) (w:=W) ⟨_,32,rfl,by omega,by decide,(fun q=>by cases q),fun _=>⟨w.heap.size,0,rfl,fun i x hx=>by
  refine jj ?_ hb;rw[Nat.zero_add,cell_of_row _ _ _ _ _ _ jQ,hT]
  simp[qC,hx]⟩⟩)
 have HF:=jh hf;have HL:=jh hlt;have HC:=jh hc;have HSL:=jh hsz;have bU:=jh hl;have sl:=slice_h w.heap.size;rw[<-hT];rw[hl] at HS;clear hc hf ho hi hl hsz hT q1 q2 q3 hlt
 go_enter func201,ntmps201
 go_upto_region 1 with fail
 obtain⟨w1,e1⟩:=je (w.alloc (.cells T 67));have hs1:w1.heap.size=w.heap.size+1:=by rw[e1];simp
 have hb1:=jc e1;rw[<-e1] at YA HS⊢;have hc1:=jj HC.out hb1;have HB1:=jh hb1;have fA:=jh hs1;clear e1 hb1 hs1;have hbs:S+1<=w1.heap.size:=by have:=HL.out;have:=fA.out;omega
 go_region_law (first
  |(refine JI rfl (.tmp 8) (.tmp 9) 138 rfl (S+1) 5 i0 (.int .u8 0) 1 1 underlying138 HI.out hz0 hz1 hz2 rfl (.slice ao l.length cap) l.length (jo .u8 l) rfl (YA.out _ U3.drew) (.slice (some ⟨w.heap.size,0,none⟩) 32 32) 32 (jo .u8 h) rfl (HS.out _ U3.drew) (by have:=HSL.out;unfold maxLen;omega) (by have:=HSL.out;omega) (by simpa using hbs) ?_
    intro v2 w2 ho2 hg2 hl2;obtain⟨a2,c2,rfl⟩:=ho2.sl;have hns:∀g,(Value.slice ao l.length cap).ownBlock=some g->S+1<=g:=fun g hg=>(zy (YA.out _ U3) hg).1
    have hb2:=zO (S:=S+1) hg2 hns (by simpa using hbs);have hc2:w2.cell? ⟨S,0,none⟩=some (.slice ao l.length cap):=(World.cell?_of_block (w:=w1) (hb2.block S (Nat.lt_succ_self S))).trans hc1;have hq2:w2.heap[S]?=w.heap[S]?:=(hb2.block S (Nat.lt_succ_self S)).trans (HB1.out.block S HL.out);have hf2:w2.frozen? ⟨S,0,none⟩=false:=(qI hq2).trans (HF.out 0 (by decide));have D9:=jh ho2;have HB2:=jh hb2;have HQ2:=jh hq2
    clear ho2 hg2 hl2 hns hb2 hq2))
 all_goals
  go_end0
  have hb1:=HB1.out;have hL:=HL.out;have hs2:S<w2.heap.size:=World.block_lt_of_cell? (a:=⟨S,0,none⟩) _ hc2;have hb2:Below (S+1) w1 w2:=⟨HB2.out.os,HB2.out.tape,HB2.out.output,HB2.out.size,HB2.out.block⟩;refine⟨rfl,⟨_,World.cell?_setCell_same' w2 _ _ (by rw[hc2];rfl),fun j hj=>?_,?_⟩,?_⟩
  ·rw[World.frozen?_setCell];exact(qI HQ2.out).trans (HF.out j hj)
  ·have hown:Own w2 (S+1) (.slice a2 (l.length+32) c2) (l++h):=by
    have h9:=D9.out;unfold Own;rw[List.length_append,bU.out];unfold jo at h9⊢
    simpa using h9
   refine O1.block hown fun g hg=>(JW w2 S 0 _).block g (zy hown hg).2 fun e=>?_
   have h1:=(zy hown hg).1;injection e with e
   omega
  ·exact((hb1.mono (Nat.le_of_lt hL)).trans (hb2.mono (Nat.le_succ S))).trans (zO (JW w2 S 0 _) (fun g e=>by cases e;exact Nat.le_refl _) (Nat.le_of_lt hs2))
theorem rvote_any{S k e v n c s:Nat}{l h:List Nat}(w:World)(hw:ZR w S l)(hl:h.length=32)(hk:k<256)(he:e<18446744073709551616)(hv:v<4294967296)(hn:n<256)(hsz:l.length<=90000):
  Calls prog 127 #[.pointer (some ⟨S,0,none⟩),qU k e v n h c s] w fun r w'=>r=.returned (.tuple #[])/\ZR w' S (l++JF k e v n h)/\Below S w w':=by
 have hlt:S<w.heap.size:=by
  obtain⟨_,hc,_⟩:=hw;exact World.block_lt_of_cell? (a:=⟨S,0,none⟩) _ hc
 have k1:IntKind.u64.wrap (k:Int)=k:=by rw[Qw,Nat.mod_eq_of_lt (by omega)]
 have v1:IntKind.u64.wrap (v:Int)=v:=by rw[Qw,Nat.mod_eq_of_lt (by omega)]
 have n1:IntKind.u64.wrap (n:Int)=n:=by rw[Qw,Nat.mod_eq_of_lt (by omega)]
 obtain⟨T,hT⟩:=je ((jM k e v n h c s).toArray);have kC:(prog.info? 71).map (·.size)=some T.size:=by rw[qg,hT];simp[qz hl]
 obtain⟨w1,e1⟩:=je (w.alloc (.cells T 71));have hs1:w1.heap.size=w.heap.size+1:=by rw[e1];simp
 have hb1:=jc e1;have hr1:w1.rangeAt w.heap.size 0 (jM k e v n h c s):=by rw[e1,hT];exact JT _ _ _
 have hW1:ZR w1 S l:=by
  obtain⟨u,hc,hf,ho⟩:=hw;exact⟨u,jj hc hb1,hf.later hb1 hlt,Own.later ho hb1⟩
 have HR1:=jh hr1;have HB1:=jh hb1;have G7:=jh hlt;have bU:=jh hl;have fA:=jh hs1;have HV:=jh hT;obtain⟨B,hB⟩:=je (w.heap.size);have HBN:=jh (show B≠S by omega);have UH:=jh (show B<w1.heap.size by omega);have q0:w1.cell? ⟨B,0,none⟩=some (.int .u8 k):=by rw[hB];exact Qp hr1
 have SA:=jh (VG (n:=k) (k:=1) w1 hW1 (by omega) (by decide) (by omega));rw[<-hB] at HR1;have MC:=jh hB;unfold qU;rw[<-hT];have I7:=jh hsz;have HE:=jh he;have HVV:=jh (show v<18446744073709551616 by omega);have D6:=jh (show n<18446744073709551616 by omega);clear hT hW1 hr1 hb1 hs1 hlt hw hl hsz hk hv hn he
 go_enter func127,ntmps127
 go_upto_region 1 with fail
 rw[<-e1,<-hB];clear e1 hB
 go_upto_region 2 with(first|(go_at_call 200;refine(SA.out).mono ?_;rintro _ w2 ⟨rfl,hw,hg⟩;have HW2:=jh hw;have HG2:=jh hg;clear hw hg))
 have HR2:=jh (ED HR1.out HG2.out HBN.out UH.out);have HBL2:=jh (jv UH.out HG2.out.size);have q2:w2.cell? ⟨B,1,none⟩=some (.int .u64 e):=EQ HR2.out;have WC:=jh (VG (n:=e) (k:=8) w2 HW2.out HE.out (by decide) (by have:=I7.out;simp only[List.length_append,jI];omega))
 go_upto_region 3 with(first|(go_at_call 200;refine(WC.out).mono ?_;rintro _ w3 ⟨rfl,hw,hg⟩;have HW3:=jh hw;have mX:=jh hg;clear hw hg))
 have HR3:=jh (ED HR2.out mX.out HBN.out HBL2.out);have HBL3:=jh (jv HBL2.out mX.out.size);have q3:w3.cell? ⟨B,2,none⟩=some (.int .u32 v):=Qf HR3.out;have HN3:=jh (VG (n:=v) (k:=4) w3 HW3.out HVV.out (by decide) (by have:=I7.out;simp only[List.length_append,jI];omega))
 go_upto_region 4 with(first|(go_at_call 200;refine(HN3.out).mono ?_;rintro _ w4 ⟨rfl,hw,hg⟩;have BN:=jh hw;have HG4:=jh hg;clear hw hg))
 have HR4:=jh (ED HR3.out HG4.out HBN.out HBL3.out);have HBL4:=jh (jv HBL3.out HG4.out.size);have q4:w4.cell? ⟨B,3,none⟩=some (.int .u8 n):=Zq HR4.out;have HN4:=jh (VG (n:=n) (k:=1) w4 BN.out D6.out (by decide) (by have:=I7.out;simp only[List.length_append,jI];omega))
 go_upto_region 5 with(first|(go_at_call 200;refine(HN4.out).mono ?_;rintro _ w5 ⟨rfl,hw,hg⟩;have HW5:=jh hw;have nK:=jh hg;clear hw hg))
 have lK:=jh (ED HR4.out nK.out HBN.out HBL4.out);have ls:=JO lK.out bU.out;have HX:=jh (rhash_any w5 HW5.out bU.out (by have:=I7.out;simp only[List.length_append,jI];omega));refine wp_region_lit ?_;refine jL (jP S 0) ?_;refine jL (jP B 4) ?_;refine jL _ ?_ (jd ls)
 go_wp2_with (first|(go_at_call 201;refine(HX.out).mono ?_;rintro _ w6 ⟨rfl,hw,hg⟩;have HW6:=jh hw;have IX:=jh hg;clear hw hg))
 go_end0
 have hS:=G7.out;have hS1:=fA.out;have g2:=zO HG2.out (fun g e=>by cases e;exact Nat.le_refl _) (by omega);have g3:=zO mX.out (fun g e=>by cases e;exact Nat.le_refl _) (by have:=g2.size;omega);have g4:=zO HG4.out (fun g e=>by cases e;exact Nat.le_refl _) (by have:=g2.size;have:=g3.size;omega);have g5:=zO nK.out (fun g e=>by cases e;exact Nat.le_refl _) (by have:=g2.size;have:=g3.size;have:=g4.size;omega);refine⟨rfl,?_,(HB1.out.mono (Nat.le_of_lt hS)).trans (g2.trans (g3.trans (g4.trans (g5.trans IX.out))))⟩;have h9:=HW6.out;unfold JF
 simpa only[List.append_assoc] using h9
theorem RVote_any{k e v n c s:Nat}{h:List Nat}(w:World)(hl:h.length=32)(hby:qk h)(hk:k<256)(he:e<18446744073709551616)(hv:v<4294967296)(hn:n<256):
  Calls prog 44 #[qU k e v n h c s] w fun r w'=>r=.returned (.agg (jo .u8 (Jo k e v n h)).toArray)/\Below w.heap.size w w':=by
 obtain⟨V,hV⟩:=je ((jM k e v n h c s).toArray);have N9:(prog.info? 71).map (·.size)=some V.size:=by rw[qg,hV];simp[qz hl]
 have hbv:qk (JF k e v n h):=by
  unfold JF;intro x hx;simp only[List.mem_append] at hx
  rcases hx with hx|hx|hx|hx|hx
  ·exact qN _ _ x hx
  ·exact qN _ _ x hx
  ·exact qN _ _ x hx
  ·exact qN _ _ x hx
  ·exact hby x hx
 have CV:=jh (fun(W:World) (S:Nat) (hw:ZR W S [])=>by have h9:=rvote_any (c:=c) (s:=s) W hw hl hk he hv hn (by simp);unfold qU at h9;rewrite[<-hV] at h9;exact h9);have HVV:=jh hV;have I7:=jh N9;have HBV:=jh hbv;have bU:=jh hl;have HR:=jh (fun(W:World)=>show(W.alloc (.cells V 71)).rangeAt W.heap.size 0 (jM k e v n h c s) by rw[hV];exact JT _ _ _);obtain⟨T,hT⟩:=je ((jo .u8 (Jo k e v n h)).toArray);have hTs:T.size=32:=by rw[hT];simp[js,Jo,jY]
 have h1T:T.all (·.oneCell')=true:=by rw[hT];exact Jc _ _
 have HTT:=jh hT;have VT:=jh hTs;have HT1:=jh h1T;unfold qU;rw[<-hV,<-hT];clear hV N9 hbv hl hby hk he hv hn hT hTs h1T
 go_enter func44,ntmps44
 go_upto_region 1 with fail
 obtain⟨w0,e0⟩:=je (w.alloc (.cells V 71));obtain⟨w1,e1⟩:=je (w0.alloc (.cells jC 67));have hs0:w0.heap.size=w.heap.size+1:=by rw[e0];simp
 have hs1:w1.heap.size=w.heap.size+1+1:=by rw[e1];simp[hs0]
 have hb0:=jc e0;have hb01:=jc e1;have hb1:Below w.heap.size w w1:=jm hb0 hb01;have hr1:w1.rangeAt w.heap.size 0 (jM k e v n h c s):=ju (by rw[e0];exact HR.out w) hb01;have hh1:w1.heap[w.heap.size+1]?=some (.cells #[.int .u8 0,.int .u8 0,.int .u8 0,.int .u8 0,.int .u8 0,.int .u8 0,.int .u8 0,.int .u8 0,.int .u8 0,.int .u8 0,.int .u8 0,.int .u8 0,.int .u8 0,.int .u8 0,.int .u8 0,.int .u8 0,.int .u8 0,.int .u8 0,.int .u8 0,.int .u8 0,.int .u8 0,.int .u8 0,.int .u8 0,.int .u8 0,.int .u8 0,.int .u8 0,.int .u8 0,.int .u8 0,.int .u8 0,.int .u8 0,.int .u8 0,.int .u8 0] 67 (0,0)):=by rw[<-hs0,e1];exact jQ
 rw[<-e0,<-e1];obtain⟨B,hB⟩:=je (w.heap.size);rw[<-hB] at hr1 hh1 hs1⊢;obtain⟨H,hH⟩:=je (B+1);rw[<-hH] at hh1 hs1⊢;have HB1:=jh hb1;have HR1:=jh hr1;have HH1:=jh hh1;have fA:=jh (And.intro hB (And.intro hH hs1));clear e0 e1 hb0 hb01 hb1 hr1 hh1 hs0 hs1 hB hH HR
 go_upto_region 2 with fail
 obtain⟨w2,e2⟩:=je (w1.alloc (.cells #[.slice none 0 0,.bool false] 140));have hb2:=jc e2;have hW2:ZR w2 w1.heap.size []:=⟨.slice none 0 0,by rw[e2,cell_of_row _ _ _ _ _ _ jQ];rfl,by rw[e2];exact Y0.new _ _ _ _,⟨by simp[jo],.inl ⟨rfl,rfl⟩⟩⟩;obtain⟨S,hS⟩:=je (w1.heap.size);rw[<-hS] at hW2;rw[<-e2,<-hS];have HW2:=jh hW2;have HB2:=jh hb2;have HSS:=jh hS;have HR2:=jh (ju HR1.out hb2);clear e2 hW2 hb2 hS;refine wp_region_lit ?_;refine jL (jP S 0) ?_;refine jL (.agg V) ?_ (jd (by have h9:=DR HR2.out bU.out;unfold qU at h9;rw[<-HVV.out] at h9;exact h9))
 go_wp2_with fail
 refine(CV.out w2 S HW2.out).mono ?_;rintro _ w3 ⟨rfl,hw3,hb3⟩;obtain⟨v3,hc3, -,ho3⟩:=hw3;rw[List.nil_append] at ho3;obtain⟨ao,cap,rfl,q1,q2,q3, -⟩:=ho3.at_;have UJ:=jh ho3;have HB3:=jh hb3;clear ho3 hb3 q3
 go_wp2_with fail
 have hP:Parts (w3.alloc (.cells #[.slice ao (JF k e v n h).length cap] 138)) w3.heap.size 0 [.slice ao (JF k e v n h).length cap] [JF k e v n h]:=⟨rfl,fun i hi=>by
  obtain rfl:i=0:=by simp at hi;exact hi
  exact⟨_,_,rfl,rfl,by simp,UJ.out.at_.later (ja)⟩⟩
 refine(WW (s:=⟨#[118,111,116,101]⟩) (cap:=1) _ hP (by simp) (fun l fJ=>by simp only[List.mem_singleton] at fJ;subst fJ;exact HBV.out) (by have:=MG (k:=k) (e:=e) (v:=v) (n:=n) bU.out;unfold qA hdr;simp[jI,enc,this];decide)).mono ?_;rw[show zr (qA (zx ⟨#[118,111,116,101]⟩) [JF k e v n h])=Jo k e v n h from rfl,<-HTT.out];rintro _ w5 ⟨rfl,hb5⟩;obtain⟨w4,e4⟩:=je (w3.alloc (.cells #[.slice ao (JF k e v n h).length cap] 138));have hb4:=jc e4;rw[<-e4] at hb5;obtain⟨z1,z1b,z1c⟩:=fA.out;have z2:=HB2.out.size;have z3:=HB3.out.size;have z4:=hb4.size;have zS:=HSS.out;have hH5:=(hb5.block H (by omega)).trans ((hb4.block H (by omega)).trans ((HB3.out.block H (by omega)).trans ((HB2.out.block H (by omega)).trans HH1.out)));have hB5:Below w.heap.size w w5:=HB1.out.trans ((HB2.out.mono (by omega)).trans ((HB3.out.mono (by omega)).trans ((hb4.mono (by omega)).trans (hb5.mono (by omega)))));have HH5:=jh hH5;have dO:=jh hB5;have HZ:=jh (show w.heap.size<=H by omega);have kC:(prog.info? 67).map (·.size)=some T.size:=by rw[qR,VT.out]
 clear z1 z1b z1c z2 z3 z4 zS hH5 hB5 hb5 hb4 e4 hP hc3 q1 q2;dsimp only
 go_step
 refine jV rfl _ _ _ rfl H _ _ _ HH5.out rfl rfl kC (by rw[VT.out];rfl) HT1.out ?_;simp only[Act.put]
 go_wp2_with fail
 obtain⟨w9,e9⟩:=je (w5.setRow H T);have L8:w9.heap[H]?=some (.cells T 67 (0,0)):=by rw[e9];exact setRow_heap _ _ _ _ _ _ HH5.out
 have L6:Below w.heap.size w w9:=by rw[e9];exact below_setRow dO.out HZ.out _
 rw[<-e9];exact bodyPost_ret (results_cell_row rfl _ w9 H _ _ _ _ rfl L8 underlying67 rfl kC) rfl ⟨rfl,L6⟩
end Go.Proofs.YtpkalgofejjggaaGreatDoor
