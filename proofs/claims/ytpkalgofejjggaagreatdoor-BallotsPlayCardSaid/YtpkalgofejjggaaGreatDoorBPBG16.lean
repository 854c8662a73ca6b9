/- Layer 5's reference -/
import Derived.Test.YtpkalgofejjggaaGreatDoorBPBG06
import Derived.Test.YtpkalgofejjggaaGreatDoorBPBG12
import Derived.Test.YtpkalgofejjggaaGreatDoorBPBG13
import Derived.Test.YtpkalgofejjggaaGreatDoorBPBG15
set_option linter.unusedSimpArgs false
set_option linter.unusedVariables false
set_option maxHeartbeats 4000000
set_option maxRecDepth 20000
namespace Go.Proofs.YtpkalgofejjggaaGreatDoor
open Go.ChangeShapes Go.WideShapes Go.ChangeAt Go.RowKit Go.Proofs.Tryz
def KA(k:IntKind)(w:World)(b o n:Nat)(A:Nat->Nat):Prop:=∀j,j<n->w.cell? ⟨b,o+j,none⟩=some (.int k (A j))
theorem KA.later{k:IntKind}{w w':World}{b o n:Nat}{A:Nat->Nat}(h:KA k w b o n A)(hb:Below w.heap.size w w'):KA k w' b o n A:=fun j hj=>by
 have h1:=h j hj;exact(hb.cell (p:=⟨b,o+j,none⟩) (World.block_lt_of_cell? (a:=⟨b,o+j,none⟩) _ h1)).trans h1
theorem KA.set{k:IntKind}{w:World}{b n:Nat}{A:Nat->Nat}(h:KA k w b 0 n A)(c x:Nat):KA k (w.setCell ⟨b,c,none⟩ (.int k x)) b 0 n (fun j=>if j=c then x else A j):=by
 intro j hj;have h1:=h j hj;rw[Nat.zero_add] at h1⊢
 by_cases hjc:j=c
 ·subst hjc;rw[World.cell?_setCell_same (h:=h1)]
  simp
 ·rw[World.cell?_setCell_other _ _ _ _ (by intro h;injection h;omega),h1]
  simp[hjc]
theorem KA.other{k:IntKind}{w:World}{b o n:Nat}{A:Nat->Nat}(h:KA k w b o n A){c:Nat}(i:Nat)(v:Value)(hc:b≠c):KA k (w.setCell ⟨c,i,none⟩ v) b o n A:=fun j hj=>by
 rw[World.cell?_setCell_other _ _ _ _ (by intro h;injection h;omega),h j hj]
theorem KA.congr{k:IntKind}{w:World}{b o n:Nat}{A B:Nat->Nat}(h:KA k w b o n A)(hg:∀j,j<n->A j=B j):KA k w b o n B:=fun j hj=>by rw[h j hj,hg j hj]
theorem ZP{l:List Nat}{i:Nat}(h:i<l.length):l[i]?=some (zK l i):=by
 unfold zK;rw[List.getD_eq_getElem?_getD,List.getElem?_eq_getElem h]
 rfl
theorem Jm{n:Nat}(h:n<9223372036854775808):IntKind.i64.wrap (n:Int)=(n:Int):=by simp[IntKind.wrap,IntKind.bits,IntKind.signed];omega
theorem IG{n:Nat}(h:n<4294967296):IntKind.u32.wrap (n:Int)=(n:Int):=by rw[IntKind.wrap_u32'];omega
theorem gI(x:Nat)(c:Int)(y:Nat)(h:(x:Int)*c=(y:Int))(hy:y<4294967296):IntKind.u32.wrap ((x:Int)*c)=(y:Int):=by rw[h];exact IG hy
theorem vI{x y k:Nat}(hy:y<2^k)(hx:x%2^k=0)(iC:x<4294967296)(hy9:y<4294967296):bits BinOp.or IntKind.u32 (x:Int) (y:Int)=((x+y:Nat):Int):=by
 rw[u32_or_nat x y iC hy9,nat_join k x y hx hy]
theorem jy{k:IntKind}{w:World}{b n:Nat}{A:Nat->Nat}(h:KA k w b 0 n A){j:Nat}(hj:j<n):w.cell? ⟨b,j,none⟩=some (.int k (A j)):=by
 have h1:=h j hj
 rwa [Nat.zero_add] at h1
theorem Za{a b:Nat}(c:Nat)(h:c=(a+b)%4294967296):IntKind.u32.wrap ((a:Int)+(b:Int))=(c:Int):=by rw[IntKind.wrap_u32',h];omega
theorem YF{a b:Nat}(ha:a<4294967296)(hb:b<4294967296)(c:Nat)(h:c=a^^^b):bits BinOp.xor IntKind.u32 (a:Int) (b:Int)=(c:Int):=by rw[h];exact u32_xor_nat a b ha hb
theorem vT{a b:Nat}(ha:a<4294967296)(hb:b<4294967296)(c:Nat)(h:c=a&&&b):bits BinOp.and IntKind.u32 (a:Int) (b:Int)=(c:Int):=by rw[h];exact u32_and_nat a b ha hb
theorem KA.new{k:IntKind}(w:World)(l:List Nat)(T:Array Value)(hT:T=(jo k l).toArray)(t:TypeId)(b:Nat)(hb:b=w.heap.size):KA k (w.alloc (.cells T t)) b 0 l.length (zK l):=by
 subst hb hT;intro j hj;rw[Nat.zero_add,cell_of_row _ _ _ _ _ _ jQ]
 simp[qC,ZP hj]
structure vZ(w wr:World)(s:S8)(b:List Nat)(SS:Nat)(i:Nat):Prop where
 sS:KA .u32 wr SS 0 8 (zK s.list)
 sB:KA .u8 wr (SS+1) 0 64 (zK b)
 sR:KA .u32 wr (SS+1+1) 0 8 (fun _=>0)
 fR:Y0 wr (SS+1+1) 8
 sW:KA .u32 wr (SS+1+1+1) 0 64 (qn b i)
 fW:Y0 wr (SS+1+1+1) 64
 below:Below w.heap.size w wr
 at9:SS=w.heap.size
 lt:SS+1+1+1<wr.heap.size
theorem vZ.later{w wr w':World}{s:S8}{b:List Nat}{SS i:Nat}(h:vZ w wr s b SS i)(hb:Below wr.heap.size wr w'):vZ w w' s b SS i:=
 ⟨h.sS.later hb,h.sB.later hb,h.sR.later hb,h.fR.later hb (by have:=h.lt;omega),h.sW.later hb,h.fW.later hb h.lt,jm h.below hb,h.at9,jv h.lt hb.size⟩
theorem vZ.set{w wr:World}{s:S8}{b:List Nat}{SS i:Nat}(h:vZ w wr s b SS i)(x:Nat)(hx:x=(if i<16 then swd b i else IK (qn b i (i-15)) (qn b i (i-2)) (qn b i (i-16)) (qn b i (i-7)))):
  vZ w (wr.setCell ⟨SS+1+1+1,i,none⟩ (.int .u32 x)) s b SS (i+1):=by
 refine⟨h.sS.other _ _ (by omega),h.sB.other _ _ (by omega),h.sR.other _ _ (by omega),h.fR.set _ _,?_,h.fW.set _ _,h.below.setCell (by have:=h.at9;show w.heap.size<=SS+1+1+1;omega) _,h.at9,by simpa using h.lt⟩;refine(h.sW.set i x).congr fun j _=>?_
 show _=(if j=i then _ else _)
 rw[<-hx]
theorem KA.zero{k:IntKind}(w:World)(n:Nat)(Z:Array Value)(hZ:Z=Array.replicate n (.int k 0))(t:TypeId)(b:Nat)(hb:b=w.heap.size):KA k (w.alloc (.cells Z t)) b 0 n (fun _=>0):=by
 subst hb hZ;intro j hj;rw[Nat.zero_add,cell_of_row _ _ _ _ _ _ jQ]
 simp[hj]
theorem tkw_start(w:World)(s:S8)(b:List Nat)(T:Array Value)(hT:T=(jo .u8 b).toArray)(hl:b.length=64)(t1 t2 t3 t4:TypeId)(Z:Array Value)(hZ:Z=Array.replicate 64 (.int .u32 0)):
  vZ w ((((w.alloc (.cells #[.int .u32 s.a,.int .u32 s.b,.int .u32 s.c,.int .u32 s.d,.int .u32 s.e,.int .u32 s.f,.int .u32 s.g,.int .u32 s.h] t1)).alloc (.cells T t2)).alloc (.cells #[.int .u32 0,.int .u32 0,.int .u32 0,.int .u32 0,.int .u32 0,.int .u32 0,.int .u32 0,.int .u32 0] t3)).alloc (.cells Z t4)) s b w.heap.size 0:=by
 have h1:=KA.new (k:=.u32) w s.list #[.int .u32 s.a,.int .u32 s.b,.int .u32 s.c,.int .u32 s.d,.int .u32 s.e,.int .u32 s.f,.int .u32 s.g,.int .u32 s.h] rfl t1 _ rfl;obtain⟨w1,e1⟩:=je (w.alloc (.cells #[.int .u32 s.a,.int .u32 s.b,.int .u32 s.c,.int .u32 s.d,.int .u32 s.e,.int .u32 s.f,.int .u32 s.g,.int .u32 s.h] t1));have n1:w1.heap.size=w.heap.size+1:=by rw[e1];simp
 have b1:=jc e1;rw[<-e1] at h1⊢;clear e1;have h2:=KA.new (k:=.u8) w1 b T hT t2 _ rfl;rw[hl] at h2;obtain⟨w2,e2⟩:=je (w1.alloc (.cells T t2));have n2:w2.heap.size=w1.heap.size+1:=by rw[e2];simp
 have b2:=jc e2;rw[<-e2] at h2⊢;clear e2;have h3:=KA.zero (k:=.u32) w2 8 #[.int .u32 0,.int .u32 0,.int .u32 0,.int .u32 0,.int .u32 0,.int .u32 0,.int .u32 0,.int .u32 0] rfl t3 _ rfl;have f3:=Y0.new w2 #[.int .u32 0,.int .u32 0,.int .u32 0,.int .u32 0,.int .u32 0,.int .u32 0,.int .u32 0,.int .u32 0] t3 8;obtain⟨w3,e3⟩:=je (w2.alloc (.cells #[.int .u32 0,.int .u32 0,.int .u32 0,.int .u32 0,.int .u32 0,.int .u32 0,.int .u32 0,.int .u32 0] t3));have n3:w3.heap.size=w2.heap.size+1:=by rw[e3];simp
 have b3:=jc e3;rw[<-e3] at h3 f3⊢;clear e3;have h4:=KA.zero (k:=.u32) w3 64 Z hZ t4 _ rfl;have f4:=Y0.new w3 Z t4 64;obtain⟨w4,e4⟩:=je (w3.alloc (.cells Z t4));have n4:w4.heap.size=w3.heap.size+1:=by rw[e4];simp
 have b4:=jc e4;rw[<-e4] at h4 f4⊢;clear e4;rw[n1] at n2 h2;rw[n2] at n3 h3 f3;rw[n3] at n4 h4 f4;exact⟨((h1.later b2).later b3).later b4,(h2.later b3).later b4,h3.later b4,f3.later b4 (by omega),h4,f4,jm (jm (jm b1 b2) b3) b4,rfl,by omega⟩
structure wZ(w wr:World)(s:S8)(b:List Nat)(SS NN:Nat)(A:Nat->Nat):Prop where
 base:vZ w wr s b SS 64
 nn:KA .u32 wr NN 0 8 A
 fN:Y0 wr NN 8
 gt:SS+1+1+1<NN
 lt:NN<wr.heap.size
theorem wZ.later{w wr w':World}{s:S8}{b:List Nat}{SS NN:Nat}{A:Nat->Nat}(h:wZ w wr s b SS NN A)(hb:Below wr.heap.size wr w'):wZ w w' s b SS NN A:=
 ⟨h.base.later hb,h.nn.later hb,h.fN.later hb h.lt,h.gt,jv h.lt hb.size⟩
theorem vZ.other{w wr:World}{s:S8}{b:List Nat}{SS i NN:Nat}(h:vZ w wr s b SS i)(hg:SS+1+1+1<NN)(c:Nat)(v:Value):vZ w (wr.setCell ⟨NN,c,none⟩ v) s b SS i:=
 ⟨h.sS.other _ _ (by omega),h.sB.other _ _ (by omega),h.sR.other _ _ (by omega),h.fR.set _ _,h.sW.other _ _ (by omega),h.fW.set _ _,h.below.setCell (by have:=h.at9;show w.heap.size<=NN;omega) _,h.at9,by simpa using h.lt⟩
theorem wZ.set{w wr:World}{s:S8}{b:List Nat}{SS NN:Nat}{A:Nat->Nat}(h:wZ w wr s b SS NN A)(c x:Nat)(C:Nat->Nat)(hC:∀j,C j=if j=c then x else A j):wZ w (wr.setCell ⟨NN,c,none⟩ (.int .u32 x)) s b SS NN C:=
 ⟨h.base.other h.gt _ _,(h.nn.set c x).congr fun j _=>(hC j).symm,h.fN.set _ _,h.gt,by simpa using h.lt⟩
theorem wZ.set8{w wr:World}{s:S8}{b:List Nat}{SS NN:Nat}{A:Nat->Nat}(h:wZ w wr s b SS NN A)(x0 x1 x2 x3 x4 x5 x6 x7:Nat)(C:Nat->Nat)(hC:C=zK [x0,x1,x2,x3,x4,x5,x6,x7]):
  wZ w ((((((((wr.setCell ⟨NN,0,none⟩ (.int .u32 x0)).setCell ⟨NN,1,none⟩ (.int .u32 x1)).setCell ⟨NN,2,none⟩ (.int .u32 x2)).setCell ⟨NN,3,none⟩ (.int .u32 x3)).setCell ⟨NN,4,none⟩ (.int .u32 x4)).setCell ⟨NN,5,none⟩ (.int .u32 x5)).setCell ⟨NN,6,none⟩ (.int .u32 x6)).setCell ⟨NN,7,none⟩ (.int .u32 x7)) s b SS NN C:=by
 have h9:=(((((((h.set 0 x0 _ fun _=>rfl).set 1 x1 _ fun _=>rfl).set 2 x2 _ fun _=>rfl).set 3 x3 _ fun _=>rfl).set 4 x4 _ fun _=>rfl).set 5 x5 _ fun _=>rfl).set 6 x6 _ fun _=>rfl).set 7 x7 _ fun _=>rfl
 refine⟨h9.base,h9.nn.congr fun j hj=>?_,h9.fN,h9.gt,h9.lt⟩;rw[hC]
 rcases(show j=0∨j=1∨j=2∨j=3∨j=4∨j=5∨j=6∨j=7 by omega) with rfl|rfl|rfl|rfl|rfl|rfl|rfl|rfl<;>rfl
theorem tkn_start{w wr:World}{s:S8}{b:List Nat}{SS:Nat}(h:vZ w wr s b SS 64)(t:TypeId):
  wZ w (wr.alloc (.cells #[.int .u32 s.a,.int .u32 s.b,.int .u32 s.c,.int .u32 s.d,.int .u32 s.e,.int .u32 s.f,.int .u32 s.g,.int .u32 s.h] t)) s b SS wr.heap.size (zK s.list):=
 ⟨h.later (ja),KA.new (k:=.u32) wr s.list #[.int .u32 s.a,.int .u32 s.b,.int .u32 s.c,.int .u32 s.d,.int .u32 s.e,.int .u32 s.f,.int .u32 s.g,.int .u32 s.h] rfl t _ rfl,Y0.new _ _ _ _,h.lt,by simp⟩
theorem Jj{w:World}{NN:Nat}{a b c d e f g h:Nat}(H:KA .u32 w NN 0 8 (zK (S8.list ⟨a,b,c,d,e,f,g,h⟩))):
  w.cell? ⟨NN,0,none⟩=some (.int .u32 a)/\w.cell? ⟨NN,1,none⟩=some (.int .u32 b)/\w.cell? ⟨NN,2,none⟩=some (.int .u32 c)/\w.cell? ⟨NN,3,none⟩=some (.int .u32 d)/\
  w.cell? ⟨NN,4,none⟩=some (.int .u32 e)/\w.cell? ⟨NN,5,none⟩=some (.int .u32 f)/\w.cell? ⟨NN,6,none⟩=some (.int .u32 g)/\w.cell? ⟨NN,7,none⟩=some (.int .u32 h):=
 ⟨jy H (j:=0) (by decide),jy H (j:=1) (by decide),jy H (j:=2) (by decide),jy H (j:=3) (by decide),jy H (j:=4) (by decide),jy H (j:=5) (by decide),jy H (j:=6) (by decide),jy H (j:=7) (by decide)⟩
theorem tkn_read{w wr:World}{s:S8}{l:List Nat}{SS NN:Nat}{a b c d e f g h:Nat}(H:wZ w wr s l SS NN (zK (S8.list ⟨a,b,c,d,e,f,g,h⟩))):
  wr.cell? ⟨NN,0,none⟩=some (.int .u32 a)/\wr.cell? ⟨NN,1,none⟩=some (.int .u32 b)/\wr.cell? ⟨NN,2,none⟩=some (.int .u32 c)/\wr.cell? ⟨NN,3,none⟩=some (.int .u32 d)/\
  wr.cell? ⟨NN,4,none⟩=some (.int .u32 e)/\wr.cell? ⟨NN,5,none⟩=some (.int .u32 f)/\wr.cell? ⟨NN,6,none⟩=some (.int .u32 g)/\wr.cell? ⟨NN,7,none⟩=some (.int .u32 h):=Jj H.nn
theorem idx_steps:∀(k:Nat) (_:k<64) (w:World),(Instr.index 336 (.agg (jo .u32 ZG).toArray) (.int .i64 k)).run prog w=.ok (.int .u32 (zK ZG k)) w
 |0,_,_=>by kernel_rfl
 |1,_,_=>by kernel_rfl
 |2,_,_=>by kernel_rfl
 |3,_,_=>by kernel_rfl
 |4,_,_=>by kernel_rfl
 |5,_,_=>by kernel_rfl
 |6,_,_=>by kernel_rfl
 |7,_,_=>by kernel_rfl
 |8,_,_=>by kernel_rfl
 |9,_,_=>by kernel_rfl
 |10,_,_=>by kernel_rfl
 |11,_,_=>by kernel_rfl
 |12,_,_=>by kernel_rfl
 |13,_,_=>by kernel_rfl
 |14,_,_=>by kernel_rfl
 |15,_,_=>by kernel_rfl
 |16,_,_=>by kernel_rfl
 |17,_,_=>by kernel_rfl
 |18,_,_=>by kernel_rfl
 |19,_,_=>by kernel_rfl
 |20,_,_=>by kernel_rfl
 |21,_,_=>by kernel_rfl
 |22,_,_=>by kernel_rfl
 |23,_,_=>by kernel_rfl
 |24,_,_=>by kernel_rfl
 |25,_,_=>by kernel_rfl
 |26,_,_=>by kernel_rfl
 |27,_,_=>by kernel_rfl
 |28,_,_=>by kernel_rfl
 |29,_,_=>by kernel_rfl
 |30,_,_=>by kernel_rfl
 |31,_,_=>by kernel_rfl
 |32,_,_=>by kernel_rfl
 |33,_,_=>by kernel_rfl
 |34,_,_=>by kernel_rfl
 |35,_,_=>by kernel_rfl
 |36,_,_=>by kernel_rfl
 |37,_,_=>by kernel_rfl
 |38,_,_=>by kernel_rfl
 |39,_,_=>by kernel_rfl
 |40,_,_=>by kernel_rfl
 |41,_,_=>by kernel_rfl
 |42,_,_=>by kernel_rfl
 |43,_,_=>by kernel_rfl
 |44,_,_=>by kernel_rfl
 |45,_,_=>by kernel_rfl
 |46,_,_=>by kernel_rfl
 |47,_,_=>by kernel_rfl
 |48,_,_=>by kernel_rfl
 |49,_,_=>by kernel_rfl
 |50,_,_=>by kernel_rfl
 |51,_,_=>by kernel_rfl
 |52,_,_=>by kernel_rfl
 |53,_,_=>by kernel_rfl
 |54,_,_=>by kernel_rfl
 |55,_,_=>by kernel_rfl
 |56,_,_=>by kernel_rfl
 |57,_,_=>by kernel_rfl
 |58,_,_=>by kernel_rfl
 |59,_,_=>by kernel_rfl
 |60,_,_=>by kernel_rfl
 |61,_,_=>by kernel_rfl
 |62,_,_=>by kernel_rfl
 |63,_,_=>by kernel_rfl
 |k+64,h,_=>absurd h (by omega)
def gapR(j:Nat):Option Rel:=if j=11 then some (relK .i64 [7,18]) else if j=18 then some (relK .i64 [17,19]) else none
theorem gapR_is(j:Nat):(gapR j).isSome=(j==11||j==18):=by
 unfold gapR
 by_cases h:j=11
 ·simp[h]
 ·by_cases h':j=18
  ·simp[h']
  ·simp[h,h']
def gapT:List (List Nat):=[[],[],[1],[1,2],[1,2,3],[],[5],[5,6],[5,6,7],[1,2,3,4,5,6,7,8],[],[],[10,11],[],[13],[10,11,12,13,14],[1,2,3,4,5,6,7,8,9,10,11,12,13,14,15],[],[],[10,11,12,17,18],[],[20],[10,11,12,17,18,19,20,21],[1,2,3,4,5,6,7,8,9,10,11,12,13,14,15,16,17,18,19,20,21,22],[0,1,2,3,4,5,6,7,8,9,10,11,12,13,14,15,16,17,18,19,20,21,22,23],[0,1,2,3,4,5,6,7,8,9,10,11,12,13,14,15,16,17,18,19,20,21,22,23,24]]
theorem kR{x:Nat}{ks:List Nat}(hx:x<2^32)(hks:∀k∈ks,1<=k/\k<=31){y:Nat}(hy:QS x ks=y)(w:World){a:Option Addr}{c:Nat}(hv:F7 .i64 w (.slice a ks.length c) ks):
  Calls prog 282 #[.int .u32 x,.slice a ks.length c] w fun e w'=>e=.returned (.int .u32 y)/\Below w.heap.size w w':=by
 subst hy;exact(mix_any hx hks w hv).mono fun _ _ ⟨h1,h2⟩=>⟨h1,by rw[h2];exact U3⟩
def EF(z s:S8)(i j:Nat):Nat:=if j<i then(zK z.list j+zK s.list j)%4294967296 else zK z.list j
theorem YK(z s:S8):EF z s 0=zK z.list:=by funext j;unfold EF;rw[if_neg (Nat.not_lt_zero j)]
theorem iL(z s:S8)(i j:Nat):EF z s (i+1) j=if j=i then(zK z.list i+zK s.list i)%4294967296 else EF z s i j:=by
 unfold EF
 by_cases h:j=i
 ·subst h;rw[if_pos (Nat.lt_succ_self j),if_pos rfl]
 ·rw[if_neg h]
  by_cases h':j<i
  ·rw[if_pos h',if_pos (by omega)]
  ·rw[if_neg h',if_neg (by omega)]
theorem dL(z s:S8)(i:Nat):EF z s i i=zK z.list i:=by unfold EF;rw[if_neg (Nat.lt_irrefl i)]
theorem FP(z s:S8):∀j,j<8->EF z s 8 j=zK (z.plus s).list j:=fun j hj=>by
 rcases(show j=0∨j=1∨j=2∨j=3∨j=4∨j=5∨j=6∨j=7 by omega) with rfl|rfl|rfl|rfl|rfl|rfl|rfl|rfl<;>rfl
theorem s8_lt{s:S8}(h:s.Ok):∀j,zK s.list j<2^32:=fun j=>by
 obtain⟨h0,h1,h2,h3,h4,h5,h6,h7⟩:=h
 rcases(show j=0∨j=1∨j=2∨j=3∨j=4∨j=5∨j=6∨j=7∨8<=j by omega) with rfl|rfl|rfl|rfl|rfl|rfl|rfl|rfl|hj
 ·exact h0
 ·exact h1
 ·exact h2
 ·exact h3
 ·exact h4
 ·exact h5
 ·exact h6
 ·exact h7
 ·unfold zK;rw[List.getD_eq_getElem?_getD,List.getElem?_eq_none (by unfold S8.list;exact hj)]
  decide
theorem KA.set8{wr:World}{B:Nat}{A:Nat->Nat}(h:KA .u32 wr B 0 8 A)(x0 x1 x2 x3 x4 x5 x6 x7:Nat):KA .u32 ((((((((wr.setCell ⟨B,0,none⟩ (.int .u32 x0)).setCell ⟨B,1,none⟩ (.int .u32 x1)).setCell ⟨B,2,none⟩ (.int .u32 x2)).setCell ⟨B,3,none⟩ (.int .u32 x3)).setCell ⟨B,4,none⟩ (.int .u32 x4)).setCell ⟨B,5,none⟩ (.int .u32 x5)).setCell ⟨B,6,none⟩ (.int .u32 x6)).setCell ⟨B,7,none⟩ (.int .u32 x7)) B 0 8 (zK [x0,x1,x2,x3,x4,x5,x6,x7]):=by
 have h9:=(((((((h.set 0 x0).set 1 x1).set 2 x2).set 3 x3).set 4 x4).set 5 x5).set 6 x6).set 7 x7;refine h9.congr fun j hj=>?_
 rcases(show j=0∨j=1∨j=2∨j=3∨j=4∨j=5∨j=6∨j=7 by omega) with rfl|rfl|rfl|rfl|rfl|rfl|rfl|rfl<;>rfl
theorem tN{w wr:World}{B:Nat}(h:Below w.heap.size w wr)(hB:w.heap.size<=B)(x0 x1 x2 x3 x4 x5 x6 x7:Value):Below w.heap.size w ((((((((wr.setCell ⟨B,0,none⟩ x0).setCell ⟨B,1,none⟩ x1).setCell ⟨B,2,none⟩ x2).setCell ⟨B,3,none⟩ x3).setCell ⟨B,4,none⟩ x4).setCell ⟨B,5,none⟩ x5).setCell ⟨B,6,none⟩ x6).setCell ⟨B,7,none⟩ x7):=
 (((((((h.setCell hB _).setCell hB _).setCell hB _).setCell hB _).setCell hB _).setCell hB _).setCell hB _).setCell hB _
def sumR(j:Nat):Option Rel:=if j=2 then some (relK .i64 [6,11,25]) else none
theorem sumR_is(j:Nat):(sumR j).isSome=(j==2):=by
 unfold sumR
 by_cases h:j=2
 ·simp[h]
 ·simp[h]
def sumT:List (List Nat):=[[],[],[],[1,2],[0,1,2,3],[],[],[],[],[7,8],[6,7,8,9],[5,6,7,8,9,10],[0,1,2,3,4,5,6,7,8,9,10,11],[],[0,1,2,3,4,5,6,7,8,9,10,11,12,13],[],[15],[15,16],[0,1,2,3,4,5,6,7,8,9,10,11,12,13,14,15,16,17],[0,1,2,3,4,5,6,7,8,9,10,11,12,13,14,15,16,17,18]]
theorem take_any{s:S8}{b:List Nat}(hs:s.Ok)(hb:qk b)(hl:b.length=64)(w:World):
  Calls prog 279 #[s.val,.agg (jo .u8 b).toArray] w fun e w'=>e=.returned (takeB s b).val/\Below w.heap.size w w':=by
 obtain⟨T,hT⟩:=je ((jo .u8 b).toArray);rw[<-hT];have HS:=jh (fun t1 t2 t3 t4=>tkw_start w s b T hT hl t1 t2 t3 t4);have dU:=jh hb;have HOk:=jh hs;clear hT hs hb hl;unfold S8.val
 go_enter func279,ntmps279
 go_wp2_with fail
 go_loopw [22] (fun i wr=>∃k:Nat,k<=64/\i=.int .i64 k/\Hid (vZ w wr s b w.heap.size k)) (fun i _=>64-(intOf i).toNat)
 case atStart=>exact⟨0,Nat.zero_le _,rfl,jh (HS.out _ _ _ _ _ rfl)⟩
 case round=>
  obtain⟨k,hk,rfl,HT⟩:=hrel
  by_cases hlt:k<64
  ·by_cases h16:k<16
   ·obtain⟨m,hm⟩:=je (4*k);obtain⟨m1,hm1⟩:=je (4*k+1);obtain⟨m2,hm2⟩:=je (4*k+2);obtain⟨m3,hm3⟩:=je (4*k+3);have r0:=HT.out.sB (4*k) (by omega);have r1:=HT.out.sB (4*k+1) (by omega);have r2:=HT.out.sB (4*k+2) (by omega);have r3:=HT.out.sB (4*k+3) (by omega);have q0:=HT.out.sW k (by omega);have f0:=HT.out.fW k (by omega);rw[Nat.zero_add,<-hm] at r0;rw[Nat.zero_add,<-hm1] at r1;rw[Nat.zero_add,<-hm2] at r2;rw[Nat.zero_add,<-hm3] at r3;rw[Nat.zero_add] at q0;have i0:(4:Int)*(k:Int)=(m:Int):=by omega
    have i1:(m:Int)+1=(m1:Int):=by omega
    have i2:(m:Int)+2=(m2:Int):=by omega
    have i3:(m:Int)+3=(m3:Int):=by omega
    have HX:=jh (show swd b k=zK b (4*k)*16777216+zK b (4*k+1)*65536+zK b (4*k+2)*256+zK b (4*k+3) from rfl);rw[<-hm1,<-hm2,<-hm3,<-hm] at HX;have y0:=Qv dU.out m;have y1:=Qv dU.out m1;have y2:=Qv dU.out m2;have y3:=Qv dU.out m3
    generalize zK b m=x0 at r0 HX y0
    generalize zK b m1=x1 at r1 HX y1
    generalize zK b m2=x2 at r2 HX y2
    generalize zK b m3=x3 at r3 HX y3
    have IA:=HT;clear HT;have b0:(m:Int)<64:=by omega
    have b1:(m1:Int)<64:=by omega
    have b2:(m2:Int)<64:=by omega
    have b3:(m3:Int)<64:=by omega
    have h16I:(k:Int)<16:=by omega
    have O6:(k:Int)<64:=by omega
    have v0:=Jm (n:=m) (by omega);have v1:=Jm (n:=m1) (by omega);have v2:=Jm (n:=m2) (by omega);have v3:=Jm (n:=m3) (by omega);have u0:=IG (n:=x0) (by omega);have u1:=IG (n:=x1) (by omega);have u2:=IG (n:=x2) (by omega);have u3:=IG (n:=x3) (by omega);obtain⟨X0,hX0⟩:=je (x0*16777216);obtain⟨X1,hX1⟩:=je (x1*65536);obtain⟨X2,hX2⟩:=je (x2*256);obtain⟨Y1,hY1⟩:=je (X0+X1);obtain⟨Y2,hY2⟩:=je (Y1+X2);obtain⟨Y3,hY3⟩:=je (Y2+x3);have c0:=gI x0 16777216 X0 (by omega) (by omega);have c1:=gI x1 65536 X1 (by omega) (by omega);have c2:=gI x2 256 X2 (by omega) (by omega);have o1:=vI (x:=X0) (y:=X1) (k:=24) (by omega) (by omega) (by omega) (by omega);have o2:=vI (x:=Y1) (y:=X2) (k:=16) (by omega) (by omega) (by omega) (by omega);have o3:=vI (x:=Y2) (y:=x3) (k:=8) (by omega) (by omega) (by omega) (by omega);rw[<-hY1] at o1;rw[<-hY2] at o2;rw[<-hY3] at o3;have HX:=jh (show Y3=swd b k by rw[HX.out];omega);have h16':=jh h16;clear hm hm1 hm2 hm3 h16 hlt hX0 hX1 hX2 hY1 hY2 hY3 y0 y1 y2 y3
    go_wp2
    refine zM 31 (fun F O9 hcl hbl=>?_);have r0:=fun X9:Wd F=>jj r0 (hbl X9.world X9.fact)
    have r1:=fun X9:Wd F=>jj r1 (hbl X9.world X9.fact)
    have r2:=fun X9:Wd F=>jj r2 (hbl X9.world X9.fact)
    have r3:=fun X9:Wd F=>jj r3 (hbl X9.world X9.fact)
    clear hcl hbl q0 f0;refine zL 31 ?_;simp only[zo,zn,zm,zl,Nat.reduceAdd]
    repeat (go_big_quiet_step (fail))
    refine wpQuiet_nil ?_;refine jS ?_;intro bs w2 hb _ _;clear r0 r1 r2 r3;have HT2:=jh (IA.out.later hb);have q0:=HT2.out.sW k (by omega);have f0:=HT2.out.fW k (by omega);rw[Nat.zero_add] at q0;simp only[over]
    go_wp2_with fail
    go_roundw
    case rel=>exact⟨k+1,by omega,by go_num,jh (HT2.out.set Y3 (by rw[if_pos h16'.out];exact HX.out))⟩
    case measure=>simp[intOf];omega
   ·obtain⟨m,hm⟩:=je (k-15);obtain⟨m1,hm1⟩:=je (k-2);obtain⟨m2,hm2⟩:=je (k-16);obtain⟨m3,hm3⟩:=je (k-7);have r0:=jy HT.out.sW (j:=m) (by omega);have r1:=jy HT.out.sW (j:=m1) (by omega);have i0:(k:Int)-15=(m:Int):=by omega
    have i1:(k:Int)-2=(m1:Int):=by omega
    have i2:(k:Int)-16=(m2:Int):=by omega
    have i3:(k:Int)-7=(m3:Int):=by omega
    have HX:=jh (show IK (qn b k m) (qn b k m1) (qn b k m2) (qn b k m3)=IK (qn b k (k-15)) (qn b k (k-2)) (qn b k (k-16)) (qn b k (k-7)) by rw[hm,hm1,hm2,hm3]);have R2:=jh (fun(W:World) (h:vZ w W s b w.heap.size k)=>jy h.sW (j:=m2) (by omega));have R3:=jh (fun(W:World) (h:vZ w W s b w.heap.size k)=>jy h.sW (j:=m3) (by omega));have y0:=Jr dU.out k m;have y1:=Jr dU.out k m1;have y2:=Jr dU.out k m2;have y3:=Jr dU.out k m3
    generalize qn b k m=x at r0 HX y0
    generalize qn b k m1=y at r1 HX y1
    generalize qn b k m2=p at R2 HX y2
    generalize qn b k m3=q at R3 HX y3
    have b0:(m:Int)<64:=by omega
    have b1:(m1:Int)<64:=by omega
    have b2:(m2:Int)<64:=by omega
    have b3:(m3:Int)<64:=by omega
    have h16I:¬(k:Int)<16:=by omega
    have O6:(k:Int)<64:=by omega
    have v0:=Jm (n:=m) (by omega);have v1:=Jm (n:=m1) (by omega);have v2:=Jm (n:=m2) (by omega);have v3:=Jm (n:=m3) (by omega);obtain⟨g1,hg1⟩:∃g,QS x [7,18]=g:=⟨_,rfl⟩;obtain⟨g2,hg2⟩:∃g,QS y [17,19]=g:=⟨_,rfl⟩;have lg1:g1<2^32:=by rw[<-hg1];exact fH y0 (by decide)
    have lg2:g2<2^32:=by rw[<-hg2];exact fH y1 (by decide)
    have CG1:=jh (fun(W:World) (a:Option Addr) (c:Nat) h=>kR y0 (by decide) hg1 W (a:=a) (c:=c) h);have CG2:=jh (fun(W:World) (a:Option Addr) (c:Nat) h=>kR y1 (by decide) hg2 W (a:=a) (c:=c) h);obtain⟨x8,hx8⟩:=je (x/8);obtain⟨y8,hy8⟩:=je (y/1024);have d1:(x:Int)/8=(x8:Int):=by omega
    have d2:(y:Int)/1024=(y8:Int):=by omega
    obtain⟨s1,hs1⟩:=je ((p+q)%4294967296);obtain⟨t1,ht1⟩:=je (g1^^^x8);obtain⟨t2,ht2⟩:=je (g2^^^y8);obtain⟨s2,hs2⟩:=je ((s1+t1)%4294967296);obtain⟨s3,hs3⟩:=je ((s2+t2)%4294967296)
    have HX:=jh (show s3=IK (qn b k (k-15)) (qn b k (k-2)) (qn b k (k-16)) (qn b k (k-7)) by
     rw[<-HX.out];unfold IK;rw[hg1,hg2,<-hx8,<-hy8,<-ht1,<-ht2];omega)
    have o1:=Za s1 hs1;have o2:=YF (by omega) (by omega) t1 ht1;have o3:=Za s2 hs2;have o4:=YF (by omega) (by omega) t2 ht2;have o5:=Za s3 hs3;have h16':=jh h16;have IA:=HT;clear HT hm hm1 hm2 hm3 h16 hlt hs1 ht1 ht2 hs2 hs3 hx8 hy8 hg1 hg2 lg1 lg2 y0 y1 y2 y3
    go_wp2
    refine jK [(0,true),(1,true),(2,true),(3,true),(4,true),(5,true),(6,true),(7,true),(8,true),(9,true)] (fun w8=>w8.cell? ⟨w.heap.size+1+1+1,m,none⟩=some (.int .u32 x)/\w8.cell? ⟨w.heap.size+1+1+1,m1,none⟩=some (.int .u32 y)) (by kernel_rfl) (by kernel_rfl) (fun _ _ _ _ _ h=>h) (⟨r0,r1⟩) (fun hHeld=>?_)
    iterate 10
     refine jq ?_
    refine WP.done ?_;clear hHeld
    go_wp2_with fail
    obtain⟨w2,e2⟩:=je (wr.drew);have HT2:=jh (IA.out.later (show Below wr.heap.size wr w2 by rw[e2];exact U3.drew));rw[<-e2];clear e2 IA r0 r1;refine rF 25 (fun j=>j==11||j==18) gapR gapT [.seg 11 [],.one [],.seg 1 [11],.seg 5 [],.one [],.seg 1 [18],.seg 5 []] (by kernel_rfl) (by kernel_rfl) gapR_is (fun _ _ _ _ _ h=>h) (fun xs=>?_);unfold wpS;intro F O9 hcl hC;have r2:=fun X9:Wd F=>R2.out _ (HT2.out.later (hC _ X9.fact).1)
    have r3:=fun X9:Wd F=>R3.out _ (HT2.out.later (hC _ X9.fact).1)
    clear hC hcl;simp only[zo,zn,zm,zl,Nat.reduceAdd]
    repeat (go_big_quiet_step (fail))
    refine wpQuiet_nil ?_;clear r2 r3 O9;refine yQ 77 rfl rfl rfl rfl (by go_simp) (fun w4 h4 hD=>OI (w':=w4.alloc (.cells #[.int .i64 7,.int .i64 18] 3)) (v:=.slice (some ⟨w4.heap.size,0,none⟩) 2 2) (by go_simp) (ja) ⟨⟨some ⟨w4.heap.size,0,none⟩,2,2,w4.heap.size,w4.heap.size+1⟩,rfl,rfl,by simp,F7.made w4 [7,18] (by decide) _ rfl _⟩) (by go_simp;rfl) ?_;unfold wpS;intro F O9 hcl hC;have I5:=jh hcl;have k1:=fun X9:Wd F=>(hC _ X9.fact).2 11 (by simp) (relK .i64 [7,18]) rfl
    clear hC hcl;simp only[zo,zn,zm,zl,Nat.reduceAdd]
    go_big_quiet_step ((go_at_call 282;exact jp I5.out (CG1.out _ _ _ (k1 _))))
    refine wpQuiet_nil ?_;clear k1 I5 O9;unfold wpS;intro F O9 hcl hC;clear hC hcl;simp only[zo,zn,zm,zl,Nat.reduceAdd]
    repeat (go_big_quiet_step (fail))
    refine wpQuiet_nil ?_;clear O9;refine yQ 84 rfl rfl rfl rfl (by go_simp) (fun w4 h4 hD=>OI (w':=w4.alloc (.cells #[.int .i64 17,.int .i64 19] 3)) (v:=.slice (some ⟨w4.heap.size,0,none⟩) 2 2) (by go_simp) (ja) ⟨⟨some ⟨w4.heap.size,0,none⟩,2,2,w4.heap.size,w4.heap.size+1⟩,rfl,rfl,by simp,F7.made w4 [17,19] (by decide) _ rfl _⟩) (by go_simp;rfl) ?_;unfold wpS;intro F O9 hcl hC;have I5:=jh hcl;have k1:=fun X9:Wd F=>(hC _ X9.fact).2 18 (by simp) (relK .i64 [17,19]) rfl
    clear hC hcl;simp only[zo,zn,zm,zl,Nat.reduceAdd]
    go_big_quiet_step ((go_at_call 282;exact jp I5.out (CG2.out _ _ _ (k1 _))))
    refine wpQuiet_nil ?_;clear k1 I5 O9;unfold wpS;intro F O9 hcl hC;clear hC hcl;simp only[zo,zn,zm,zl,Nat.reduceAdd]
    repeat (go_big_quiet_step (fail))
    refine wpQuiet_nil ?_;clear O9;unfold wpS;intro w4 hb hall hap;clear hall hap;have HT3:=jh (HT2.out.later hb);clear hb HT2;have q0:=jy HT3.out.sW (j:=k) (by omega);have f0:=HT3.out.fW k (by omega)
    go_wp2_with fail
    go_roundw
    case rel=>exact⟨k+1,by omega,by go_num,jh (HT3.out.set s3 (by rw[if_neg h16'.out];exact HX.out))⟩
    case measure=>simp[intOf];omega
  ·obtain rfl:k=64:=by omega
   have IA:=HT;clear HT;have c0:wr.cell? ⟨w.heap.size,0,none⟩=some (.int .u32 s.a):=jy IA.out.sS (j:=0) (by decide);have c1:wr.cell? ⟨w.heap.size,1,none⟩=some (.int .u32 s.b):=jy IA.out.sS (j:=1) (by decide);have c2:wr.cell? ⟨w.heap.size,2,none⟩=some (.int .u32 s.c):=jy IA.out.sS (j:=2) (by decide);have c3:wr.cell? ⟨w.heap.size,3,none⟩=some (.int .u32 s.d):=jy IA.out.sS (j:=3) (by decide);have c4:wr.cell? ⟨w.heap.size,4,none⟩=some (.int .u32 s.e):=jy IA.out.sS (j:=4) (by decide);have c5:wr.cell? ⟨w.heap.size,5,none⟩=some (.int .u32 s.f):=jy IA.out.sS (j:=5) (by decide);have c6:wr.cell? ⟨w.heap.size,6,none⟩=some (.int .u32 s.g):=jy IA.out.sS (j:=6) (by decide);have c7:wr.cell? ⟨w.heap.size,7,none⟩=some (.int .u32 s.h):=jy IA.out.sS (j:=7) (by decide)
   go_wp2_with fail
   clear c0 c1 c2 c3 c4 c5 c6 c7;obtain⟨NN,hNN⟩:=je (wr.heap.size);have HN:=jh (tkn_start IA.out 327);rw[<-hNN] at HN;rw[<-hNN];obtain⟨w1,e1⟩:=je (wr.alloc (.cells #[.int .u32 s.a,.int .u32 s.b,.int .u32 s.c,.int .u32 s.d,.int .u32 s.e,.int .u32 s.f,.int .u32 s.g,.int .u32 s.h] 327));rw[<-e1] at HN;rw[<-e1];clear e1 hNN IA;refine(steps_any w1).mono ?_;rintro _ w2 ⟨rfl,hb⟩;have HN:=jh (HN.out.later hb);clear hb;obtain⟨TK,hTK⟩:=je ((jo .u32 ZG).toArray);rw[<-hTK];have HI:=jh idx_steps;rw[<-hTK] at HI;clear hTK
   go_wp2_with fail
   go_loopw [94] (fun i wr=>∃k:Nat,k<=64/\i=.int .i64 k/\Hid (wZ w wr s b w.heap.size NN (zK (ZZ b s k).list))) (fun i _=>64-(intOf i).toNat)
   case atStart=>exact⟨0,Nat.zero_le _,rfl,HN⟩
   case round=>
    obtain⟨k,hk,rfl,HT⟩:=hrel
    by_cases hlt:k<64
    ·have O6:(k:Int)<64:=by omega
     have hix:=HI.out k hlt;have G7:=jh hlt;have y0:=shaK_lt k;have y1:=Jr dU.out 64 k;have IA:=HT;have hok:=XJ b HOk.out k;have HR:=jh (show ZZ b s (k+1)=rnd (ZZ b s k) (zK ZG k) (qn b 64 k) from rfl);have RW:=jh (fun(W:World) (h:wZ w W s b w.heap.size NN (zK (ZZ b s k).list))=>jy h.base.sW (j:=k) hlt);obtain⟨z,hz⟩:=je (ZZ b s k);rw[<-hz] at IA hok HR RW;clear hz HT
     generalize zK ZG k=kk at hix HR y0
     generalize qn b 64 k=wk at RW HR y1
     obtain⟨za,zb,zc,zd,ze,zf,zg,zh⟩:=z;have RN:=jh (fun(W:World) (h:wZ w W s b w.heap.size NN (zK (S8.list ⟨za,zb,zc,zd,ze,zf,zg,zh⟩)))=>tkn_read h);obtain⟨l0,l1,l2,l3,l4,l5,l6,l7⟩:=hok;simp only at l0 l1 l2 l3 l4 l5 l6 l7;clear hlt
     go_wp2_with fail
     obtain⟨c0,c1,c2,c3,c4,c5,c6,c7⟩:=RN.out _ IA.out;refine jK [(0,true),(1,true),(2,true),(3,true),(4,true),(5,true),(6,true),(7,true),(8,true),(9,true),(10,true),(11,true),(12,true),(13,true),(14,true),(15,true),(16,true),(17,true),(18,true),(19,true),(20,true),(21,true),(22,true),(23,true)] (fun w8=>w8.cell? ⟨NN,0,none⟩=some (.int .u32 za)/\w8.cell? ⟨NN,1,none⟩=some (.int .u32 zb)/\w8.cell? ⟨NN,2,none⟩=some (.int .u32 zc)/\w8.cell? ⟨NN,3,none⟩=some (.int .u32 zd)/\w8.cell? ⟨NN,4,none⟩=some (.int .u32 ze)/\w8.cell? ⟨NN,5,none⟩=some (.int .u32 zf)/\w8.cell? ⟨NN,6,none⟩=some (.int .u32 zg)/\w8.cell? ⟨NN,7,none⟩=some (.int .u32 zh)) (by kernel_rfl) (by kernel_rfl) (fun _ _ _ _ _ h=>h) (⟨c0,c1,c2,c3,c4,c5,c6,c7⟩) (fun hHeld=>?_)
     iterate 24
      refine jq ?_
     refine WP.done ?_;clear hHeld c0 c1 c2 c3 c4 c5 c6 c7;obtain⟨g1,hg1⟩:∃g,QS ze [6,11,25]=g:=⟨_,rfl⟩;obtain⟨g2,hg2⟩:∃g,QS za [2,13,22]=g:=⟨_,rfl⟩;have lg1:g1<2^32:=by rw[<-hg1];exact fH l4 (by decide)
     have lg2:g2<2^32:=by rw[<-hg2];exact fH l0 (by decide)
     have CG1:=jh (fun(W:World) (a:Option Addr) (c:Nat) h=>kR l4 (by decide) hg1 W (a:=a) (c:=c) h);have CG2:=jh (fun(W:World) (a:Option Addr) (c:Nat) h=>kR l0 (by decide) hg2 W (a:=a) (c:=c) h);obtain⟨x1,hx1⟩:=je (zf^^^zg);have n1:x1<2^32:=by rw[hx1];exact Nat.xor_lt_two_pow l5 l6
     obtain⟨x2,hx2⟩:=je (ze&&&x1);have n2:x2<2^32:=by rw[hx2];exact Nat.and_lt_two_pow _ n1
     obtain⟨x3,hx3⟩:=je (zg^^^x2);have n3:x3<2^32:=by rw[hx3];exact Nat.xor_lt_two_pow l6 n2
     obtain⟨a1,ha1⟩:=je ((zh+g1)%4294967296);obtain⟨a2,ha2⟩:=je ((a1+x3)%4294967296);obtain⟨a3,ha3⟩:=je ((a2+kk)%4294967296);obtain⟨a4,ha4⟩:=je ((a3+wk)%4294967296);obtain⟨b1,hb1⟩:=je ((a4+g2)%4294967296);obtain⟨p1,hp1⟩:=je (za&&&zb);obtain⟨p2,hp2⟩:=je (za&&&zc);obtain⟨p3,hp3⟩:=je (p1^^^p2);obtain⟨p4,hp4⟩:=je (zb&&&zc);obtain⟨p5,hp5⟩:=je (p3^^^p4);have n4:p1<2^32:=by rw[hp1];exact Nat.and_lt_two_pow _ l1
     have n5:p2<2^32:=by rw[hp2];exact Nat.and_lt_two_pow _ l2
     have n6:p3<2^32:=by rw[hp3];exact Nat.xor_lt_two_pow n4 n5
     have n7:p4<2^32:=by rw[hp4];exact Nat.and_lt_two_pow _ l2
     obtain⟨b2,hb2⟩:=je ((b1+p5)%4294967296);obtain⟨b3,hb3⟩:=je ((zd+a4)%4294967296);have o1:=Za a1 ha1;have o2:=Za a2 ha2;have o3:=Za a3 ha3;have o4:=Za a4 ha4;have o5:=Za b1 hb1;have o6:=Za b2 hb2;have o7:=Za b3 hb3;have o8:=YF l5 l6 x1 hx1;have o9:=vT l4 n1 x2 hx2;have o10:=YF l6 n2 x3 hx3;have o11:=vT l0 l1 p1 hp1;have o12:=vT l0 l2 p2 hp2;have o13:=YF n4 n5 p3 hp3;have o14:=vT l1 l2 p4 hp4;have o15:=YF n6 n7 p5 hp5
     have HR:=jh (show ZZ b s (k+1)=⟨b2,za,zb,zc,b3,ze,zf,zg⟩ by
      rw[HR.out];unfold rnd shaT;simp only[hg1,hg2,<-hx1,<-hx2,<-hx3,<-hp1,<-hp2,<-hp3,<-hp4,<-hp5]
      congr 1<;>omega)
     clear hx1 hx2 hx3 ha1 ha2 ha3 ha4 hb1 hb2 hb3 hp1 hp2 hp3 hp4 hp5 n1 n2 n3 n4 n5 n6 n7 l0 l1 l2 l3 l4 l5 l6 l7 lg1 lg2 hg1 hg2 y0 y1
     go_wp2_with fail
     obtain⟨w3,e3⟩:=je (wr.drew);have HT2:=jh (IA.out.later (show Below wr.heap.size wr w3 by rw[e3];exact U3.drew));rw[<-e3];clear e3 IA;refine rF 19 (fun j=>j==2) sumR sumT [.seg 2 [],.one [],.seg 1 [2],.seg 15 []] (by kernel_rfl) (by kernel_rfl) sumR_is (fun _ _ _ _ _ h=>h) (fun xs=>?_);unfold wpS;intro F O9 hcl hC;clear hC hcl;simp only[zo,zn,zm,zl,Nat.reduceAdd]
     repeat (go_big_quiet_step (fail))
     refine wpQuiet_nil ?_;clear O9;refine yQ 116 rfl rfl rfl rfl (by go_simp) (fun w4 h4 hD=>OI (w':=w4.alloc (.cells #[.int .i64 6,.int .i64 11,.int .i64 25] 3)) (v:=.slice (some ⟨w4.heap.size,0,none⟩) 3 3) (by go_simp) (ja) ⟨⟨some ⟨w4.heap.size,0,none⟩,3,3,w4.heap.size,w4.heap.size+1⟩,rfl,rfl,by simp,F7.made w4 [6,11,25] (by decide) _ rfl _⟩) (by go_simp;rfl) ?_;unfold wpS;intro F O9 hcl hC;have I5:=jh hcl;have k1:=fun X9:Wd F=>(hC _ X9.fact).2 2 (by simp) (relK .i64 [6,11,25]) rfl
     clear hC hcl;simp only[zo,zn,zm,zl,Nat.reduceAdd]
     go_big_quiet_step ((go_at_call 282;exact jp I5.out (CG1.out _ _ _ (k1 _))))
     refine wpQuiet_nil ?_;clear k1 I5 O9;unfold wpS;intro F O9 hcl hC;have r2:=fun X9:Wd F=>RW.out _ (HT2.out.later (hC _ X9.fact).1)
     clear hC hcl;simp only[zo,zn,zm,zl,Nat.reduceAdd]
     repeat (go_big_quiet_step (fail))
     refine wpQuiet_nil ?_;clear O9 r2;unfold wpS;intro w4 hb hall hap;clear hall hap;have HT3:=jh (HT2.out.later hb);clear hb HT2
     go_wp2_with fail
     have HT4:=jh (HT3.out.later ((Below.refl w4.heap.size w4).alloc (Nat.le_refl _) (.cells #[.int .i64 2,.int .i64 13,.int .i64 22] 3)));refine(CG2.out _ _ _ (F7.made w4 [2,13,22] (by decide) _ rfl _)).mono ?_;rintro _ w5 ⟨rfl,hb⟩;have HT5:=jh (HT4.out.later hb);clear hb HT3 HT4;obtain⟨c0,c1,c2,c3,c4,c5,c6,c7⟩:=RN.out _ HT5.out;have f0:=HT5.out.fN 0 (by decide);have f1:=HT5.out.fN 1 (by decide);have f2:=HT5.out.fN 2 (by decide);have f3:=HT5.out.fN 3 (by decide);have f4:=HT5.out.fN 4 (by decide);have f5:=HT5.out.fN 5 (by decide);have f6:=HT5.out.fN 6 (by decide);have f7:=HT5.out.fN 7 (by decide)
     go_wp2_with fail
     go_roundw
     case rel=>exact⟨k+1,by have:=G7.out;omega,by go_num,jh (HT5.out.set8 _ _ _ _ _ _ _ _ _ (by rw[HR.out];rfl))⟩
     case measure=>simp[intOf];omega
    ·obtain rfl:k=64:=by omega
     have IA:=HT;clear HT;have hok:=XJ b HOk.out 64;have HF:=jh (show takeB s b=(ZZ b s 64).plus s from rfl);obtain⟨z,hz⟩:=je (ZZ b s 64);rw[<-hz] at IA hok HF;clear hz
     go_wp2_with fail
     go_loopw [161] (fun i wr=>∃k:Nat,k<=8/\i=.int .i64 k/\Hid (wZ w wr s b w.heap.size NN (EF z s k))) (fun i _=>8-(intOf i).toNat)
     case atStart=>exact⟨0,Nat.zero_le _,rfl,jh (by rw[YK];exact IA.out)⟩
     case round=>
      obtain⟨k,hk,rfl,HT⟩:=hrel
      by_cases hlt:k<8
      ·have O6:(k:Int)<8:=by omega
       have G7:=jh hlt;have FC:=HT;have r0:=jy HT.out.nn hlt;rw[dL] at r0;have r1:=jy HT.out.base.sS hlt;have nD:=jh (iL z s k)
       generalize zK z.list k=x at r0 nD
       generalize zK s.list k=y at r1 nD
       obtain⟨t,ht⟩:=je ((x+y)%4294967296);have o1:=Za t ht;rw[<-ht] at nD;clear ht HT hlt
       go_wp2_with fail
       refine zM 8 (fun F O9 hcl hbl=>?_);have r0:=fun X9:Wd F=>jj r0 (hbl X9.world X9.fact)
       have r1:=fun X9:Wd F=>jj r1 (hbl X9.world X9.fact)
       clear hcl hbl;refine zL 8 ?_;simp only[zo,zn,zm,zl,Nat.reduceAdd]
       repeat (go_big_quiet_step (fail))
       refine wpQuiet_nil ?_;refine jS ?_;intro bs w2 hb _ _;clear r0 r1;have HT2:=jh (FC.out.later hb);have q0:=jy HT2.out.nn G7.out;have f0:=HT2.out.fN k G7.out;simp only[over]
       go_wp2_with fail
       go_roundw
       case rel=>exact⟨k+1,by have:=G7.out;omega,by go_num,jh (HT2.out.set k t _ nD.out)⟩
       case measure=>simp[intOf];have:=G7.out;omega
      ·obtain rfl:k=8:=by omega
       have FC:=HT;clear HT;have hnn:=FC.out.nn.congr (FP z s);rw[<-HF.out] at hnn;obtain⟨u,hu⟩:=je (takeB s b);rw[<-hu] at hnn;obtain⟨ua,ub,uc,ud,ue,uf,ug,uh⟩:=u;have HU:=jh hu;clear hu;obtain⟨c0,c1,c2,c3,c4,c5,c6,c7⟩:=Jj hnn;have q0:=jy FC.out.base.sR (j:=0) (by decide);have q1:=jy FC.out.base.sR (j:=1) (by decide);have q2:=jy FC.out.base.sR (j:=2) (by decide);have q3:=jy FC.out.base.sR (j:=3) (by decide);have q4:=jy FC.out.base.sR (j:=4) (by decide);have q5:=jy FC.out.base.sR (j:=5) (by decide);have q6:=jy FC.out.base.sR (j:=6) (by decide);have q7:=jy FC.out.base.sR (j:=7) (by decide);have f0:=FC.out.base.fR 0 (by decide);have f1:=FC.out.base.fR 1 (by decide);have f2:=FC.out.base.fR 2 (by decide);have f3:=FC.out.base.fR 3 (by decide);have f4:=FC.out.base.fR 4 (by decide);have f5:=FC.out.base.fR 5 (by decide);have f6:=FC.out.base.fR 6 (by decide);have f7:=FC.out.base.fR 7 (by decide);clear hnn
       go_wp2_with fail
       have B9:=tN (B:=w.heap.size+1+1) FC.out.base.below (by omega) (.int .u32 ua) (.int .u32 ub) (.int .u32 uc) (.int .u32 ud) (.int .u32 ue) (.int .u32 uf) (.int .u32 ug) (.int .u32 uh);obtain⟨g0,g1,g2,g3,g4,g5,g6,g7⟩:=Jj (FC.out.base.sR.set8 ua ub uc ud ue uf ug uh);rw[<-HU.out];refine bodyPost_ret (v:=.agg #[.int .u32 ua,.int .u32 ub,.int .u32 uc,.int .u32 ud,.int .u32 ue,.int .u32 uf,.int .u32 ug,.int .u32 uh]) ?_ rfl ⟨rfl,B9⟩
       simp[results,results279,go_sem,g0,g1,g2,g3,g4,g5,g6,g7]
open Go.ChangeShapes Go.WideShapes Go.ChangeAt Go.RowKit
def lF(st:S8)(R:List Nat)(n:Nat):List Value:=.int .i64 1::.int .u32 st.a::.int .u32 st.b::.int .u32 st.c::.int .u32 st.d::.int .u32 st.e::.int .u32 st.f::.int .u32 st.g::.int .u32 st.h::(jo .u8 R++[.int .u64 n])
theorem Zd(st:S8)(R:List Nat)(n:Nat):(lF st R n).length=R.length+10:=by unfold lF;simp[js]
def G5(w:World)(S:Nat)(st:S8)(R:List Nat)(n:Nat):Prop:=R.length=64/\w.heap[S]?=some (.cells (lF st R n).toArray 331 (0,0))
theorem G5.cell{w:World}{S:Nat}{st:S8}{R:List Nat}{n:Nat}(h:G5 w S st R n)(j:Nat):w.cell? ⟨S,j,none⟩=(lF st R n)[j]?:=by
 rw[cell_of_row w S j _ _ _ h.2]
 simp
theorem G5.made{w:World}{S:Nat}{st:S8}{R:List Nat}{n:Nat}(h:G5 w S st R n):w.cell? ⟨S,0,none⟩=some (.int .i64 1):=by rw[h.cell];rfl
theorem G5.now8{w:World}{S:Nat}{st:S8}{R:List Nat}{n:Nat}(h:G5 w S st R n):
  w.cell? ⟨S,1,none⟩=some (.int .u32 st.a)/\w.cell? ⟨S,2,none⟩=some (.int .u32 st.b)/\w.cell? ⟨S,3,none⟩=some (.int .u32 st.c)/\w.cell? ⟨S,4,none⟩=some (.int .u32 st.d)/\
  w.cell? ⟨S,5,none⟩=some (.int .u32 st.e)/\w.cell? ⟨S,6,none⟩=some (.int .u32 st.f)/\w.cell? ⟨S,7,none⟩=some (.int .u32 st.g)/\w.cell? ⟨S,8,none⟩=some (.int .u32 st.h):=by
 refine⟨?_,?_,?_,?_,?_,?_,?_,?_⟩<;>(rw[h.cell];rfl)
theorem G5.rest{w:World}{S:Nat}{st:S8}{R:List Nat}{n:Nat}(h:G5 w S st R n)(j:Nat)(hj:j<64):w.cell? ⟨S,9+j,none⟩=some (.int .u8 (zK R j)):=by
 rw[h.cell,show 9+j=j+1+1+1+1+1+1+1+1+1 by omega];unfold lF;simp only[List.getElem?_cons_succ];rw[List.getElem?_append_left (by rw[js,h.1];exact hj),qC,ZP (by rw[h.1];exact hj)]
 rfl
theorem G5.many{w:World}{S:Nat}{st:S8}{R:List Nat}{n:Nat}(h:G5 w S st R n):w.cell? ⟨S,73,none⟩=some (.int .u64 n):=by
 rw[h.cell];unfold lF;simp only[List.getElem?_cons_succ];rw[List.getElem?_append_right (by rw[js,h.1];decide),js,h.1]
 rfl
theorem G5.free{w:World}{S:Nat}{st:S8}{R:List Nat}{n:Nat}(h:G5 w S st R n)(j:Nat):w.frozen? ⟨S,j,none⟩=false:=frozen_of_row w S j _ _ h.2
theorem G5.lt{w:World}{S:Nat}{st:S8}{R:List Nat}{n:Nat}(h:G5 w S st R n):S<w.heap.size:=(J6.1 h.2).1
theorem G5.range{w:World}{S:Nat}{st:S8}{R:List Nat}{n:Nat}(h:G5 w S st R n):w.rangeAt S 9 (jo .u8 R):=fun j v hj=>by
 rw[qC] at hj;obtain⟨x,hx,rfl⟩:=Option.map_eq_some_iff.1 hj;have hl:j<64:=by have:=(List.getElem?_eq_some_iff.1 hx).1;have:=h.1;omega
 rw[h.rest j hl,<-Option.some.inj ((ZP (by rw[h.1];exact hl)).symm.trans hx)]
theorem G5.block{w w':World}{S:Nat}{st:S8}{R:List Nat}{n:Nat}(h:G5 w S st R n)(hb:w'.heap[S]?=w.heap[S]?):G5 w' S st R n:=⟨h.1,hb.trans h.2⟩
theorem G5.later{w w':World}{S:Nat}{st:S8}{R:List Nat}{n:Nat}(h:G5 w S st R n)(hb:Below w.heap.size w w'):G5 w' S st R n:=h.block (hb.block S h.lt)
theorem G5.setMany{w:World}{S:Nat}{st:S8}{R:List Nat}{n:Nat}(h:G5 w S st R n)(m:Nat):G5 (w.setCell ⟨S,73,none⟩ (.int .u64 m)) S st R m:=by
 refine⟨h.1,?_⟩;rw[heap_setCell_same w S 73 _ _ _ h.2]
 congr 2
 have h9:=h.1;unfold lF
 simp[js,h9]
theorem G5.setNow{w:World}{S:Nat}{st:S8}{R:List Nat}{n:Nat}(h:G5 w S st R n)(a b c d e f g i:Nat):
  G5 ((((((((w.setCell ⟨S,1,none⟩ (.int .u32 a)).setCell ⟨S,2,none⟩ (.int .u32 b)).setCell ⟨S,3,none⟩ (.int .u32 c)).setCell ⟨S,4,none⟩ (.int .u32 d)).setCell ⟨S,5,none⟩ (.int .u32 e)).setCell ⟨S,6,none⟩ (.int .u32 f)).setCell ⟨S,7,none⟩ (.int .u32 g)).setCell ⟨S,8,none⟩ (.int .u32 i)) S ⟨a,b,c,d,e,f,g,i⟩ R n:=by
 refine⟨h.1,?_⟩;have k1:=heap_setCell_same w S 1 _ _ (.int .u32 a) h.2;have k2:=heap_setCell_same _ S 2 _ _ (.int .u32 b) k1;have k3:=heap_setCell_same _ S 3 _ _ (.int .u32 c) k2;have k4:=heap_setCell_same _ S 4 _ _ (.int .u32 d) k3;have k5:=heap_setCell_same _ S 5 _ _ (.int .u32 e) k4;have k6:=heap_setCell_same _ S 6 _ _ (.int .u32 f) k5;have k7:=heap_setCell_same _ S 7 _ _ (.int .u32 g) k6;have k8:=heap_setCell_same _ S 8 _ _ (.int .u32 i) k7;refine k8.trans ?_;unfold lF
 simp
theorem G5.copy{w:World}{S:Nat}{st:S8}{R:List Nat}{n:Nat}(h:G5 w S st R n)(p:Nat)(c:List Nat)(hp:p+c.length<=64):
  G5 (w.setRow S ((lF st R n).toArray.toList.take (9+p)++(jo .u8 c++(lF st R n).toArray.toList.drop (9+p+(jo .u8 c).length))).toArray) S st (splice R p c) n:=by
 have h9:=h.1;refine⟨by rw[length_splice _ _ _ (by omega)];exact h9,?_⟩;rw[setRow_heap w S _ _ _ _ h.2]
 congr 2
 unfold splice lF;rw[show 9+p=p+1+1+1+1+1+1+1+1+1 by omega,js,show p+1+1+1+1+1+1+1+1+1+c.length=p+c.length+1+1+1+1+1+1+1+1+1 by omega];simp only[List.take_succ_cons,List.drop_succ_cons,List.cons_append];rw[List.take_append_of_le_length (by rw[js];omega),List.drop_append_of_le_length (by rw[js];omega)]
 simp[jo,List.map_take,List.map_drop]
def X8(w:World)(S:Nat)(l:List Nat):Prop:=∃R,G5 w S (GK l (l.length/64)) R l.length/\qk R/\R.take (l.length%64)=l.drop (64*(l.length/64))
theorem X8.block{w w':World}{S:Nat}{l:List Nat}(h:X8 w S l)(hb:w'.heap[S]?=w.heap[S]?):X8 w' S l:=by
 obtain⟨R,h1,h2⟩:=h;exact⟨R,h1.block hb,h2⟩
theorem X8.lt{w:World}{S:Nat}{l:List Nat}(h:X8 w S l):S<w.heap.size:=by
 obtain⟨R,h1,h2⟩:=h;exact h1.lt
theorem X8.later{w w':World}{S:Nat}{l:List Nat}(h:X8 w S l)(hb:Below w.heap.size w w'):X8 w' S l:=h.block (hb.block S h.lt)
theorem VI{l R c:List Nat}(hR:R.length=64)(h:R.take (l.length%64)=l.drop (64*(l.length/64))):
  (splice R (l.length%64) c).take (l.length%64+c.length)=(l++c).drop (64*(l.length/64)):=by
 have h8:(R.take (l.length%64)).length=l.length%64:=by rw[List.length_take,hR];omega
 unfold splice;rw[h,List.drop_append_of_le_length (by omega),<-List.append_assoc];rw[List.take_append_of_le_length (by rw[<-h,List.length_append,h8];omega)];rw[List.take_of_length_le (by rw[<-h,List.length_append,h8];omega)]
theorem ZF{R c:List Nat}{p:Nat}(hR:qk R)(hc:qk c):qk (splice R p c):=by
 intro x hx;unfold splice at hx
 rcases List.mem_append.1 hx with h|h
 ·exact hR x (List.take_subset _ _ h)
 ·rcases List.mem_append.1 h with h|h
  ·exact hc x h
  ·exact hR x (List.drop_subset _ _ h)
theorem X8.part{w:World}{S:Nat}{l c R:List Nat}(h1:G5 w S (GK l (l.length/64)) (splice R (l.length%64) c) (l.length+c.length))(hR:R.length=64)(hb:qk R)(hc:qk c)
  (h:R.take (l.length%64)=l.drop (64*(l.length/64))) (hlt:l.length%64+c.length<64):X8 w S (l++c):=by
 have e1:(l++c).length/64=l.length/64:=by rw[List.length_append];omega
 have e2:(l++c).length%64=l.length%64+c.length:=by rw[List.length_append];omega
 refine⟨splice R (l.length%64) c,?_,ZF hb hc,?_⟩
 ·rw[e1,List.length_append,aG l c _ (by omega)];exact h1
 ·rw[e1,e2];exact VI hR h
theorem X8.full{w:World}{S:Nat}{l c R:List Nat}(h1:G5 w S (takeB (GK l (l.length/64)) (splice R (l.length%64) c)) (splice R (l.length%64) c) (l.length+c.length))(hR:R.length=64)(hb:qk R)(hc:qk c)
  (h:R.take (l.length%64)=l.drop (64*(l.length/64))) (he:l.length%64+c.length=64):X8 w S (l++c):=by
 have e1:(l++c).length/64=l.length/64+1:=by rw[List.length_append];omega
 have e2:(l++c).length%64=0:=by rw[List.length_append];omega
 have e3:=VI hR h (c:=c);rw[he,List.take_of_length_le (by rw[length_splice _ _ _ (by omega)];omega)] at e3;refine⟨splice R (l.length%64) c,?_,ZF hb hc,?_⟩
 ·rw[e1,List.length_append,GK,aG l c _ (by omega),<-e3,List.take_of_length_le (by rw[length_splice _ _ _ (by omega)];omega)];exact h1
 ·rw[e1,e2,List.take_zero,List.drop_eq_nil_of_le (by rw[List.length_append];omega)]
theorem u32_or{x y z:Nat}(hx:x<4294967296)(hy:y<4294967296)(h:(x|||y)=z):bits BinOp.or IntKind.u32 (x:Int) (y:Int)=(z:Int):=by rw[u32_or_nat x y hx hy,h]
theorem RRot_any{x k:Nat}(hx:x<2^32)(h1:1<=k)(h2:k<=31)(n:Int)(hn:n=(k:Int))(w:World):
  Calls prog 274 #[.int .u32 x,.int .u64 n] w fun e w'=>e=.returned (.int .u32 (Qb x k))/\w=w':=by
 subst hn;obtain⟨m,hm⟩:=je (32-k);have hI:(32:Int)-(k:Int)=(m:Int):=by omega
 have o:=u32_or (x:=x/2^k) (y:=x*2^m%2^32) (Nat.lt_of_le_of_lt (Nat.div_le_self _ _) hx) (Nat.mod_lt _ (by decide)) (z:=Qb x k) (by rw[hm];exact round_eq hx (by omega));have E5:=jh o;clear hm o
 go_enter func274,ntmps274
 go_wp2
 go_ret
 exact⟨by have h:=E5.out;simp only[Int.natCast_emod,Int.natCast_mul,Int.natCast_pow,Int.natCast_ediv] at h;exact congrArg (fun n:Int=>Ending.returned (.int .u32 n)) h,rfl⟩
theorem DZ(w:World):Calls prog 248 #[] w fun e w'=>∃g,e=.returned (.slice (some ⟨g,0,none⟩) 64 64)/\F7 .u32 w' (.slice (some ⟨g,0,none⟩) 64 64) ZG/\w.heap.size<=g/\Below w.heap.size w w':=by
 go_enter func248,ntmps248
 go_wp2_with fail
 refine bodyPost_ret (v:=.slice (some ⟨w.heap.size,0,none⟩) 64 64) ?_ rfl ⟨w.heap.size,rfl,F7.made w ZG (by decide) _ rfl _,Nat.le_refl _,ja⟩
 simp[results,results248,go_sem]
structure LX(w wr:World)(s:S8)(b:List Nat)(SS:Nat)(i:Nat):Prop where
 sS:KA .u32 wr SS 0 8 (zK s.list)
 sR:KA .u32 wr (SS+1) 0 8 (fun _=>0)
 fR:Y0 wr (SS+1) 8
 sW:KA .u32 wr (SS+1+1) 0 64 (qn b i)
 fW:Y0 wr (SS+1+1) 64
 below:Below w.heap.size w wr
 at9:SS=w.heap.size
 lt:SS+1+1<wr.heap.size
theorem LX.later{w wr w':World}{s:S8}{b:List Nat}{SS i:Nat}(h:LX w wr s b SS i)(hb:Below wr.heap.size wr w'):LX w w' s b SS i:=
 ⟨h.sS.later hb,h.sR.later hb,h.fR.later hb (by have:=h.lt;omega),h.sW.later hb,h.fW.later hb h.lt,jm h.below hb,h.at9,jv h.lt hb.size⟩
theorem LX.set{w wr:World}{s:S8}{b:List Nat}{SS i:Nat}(h:LX w wr s b SS i)(x:Nat)(hx:x=(if i<16 then swd b i else IK (qn b i (i-15)) (qn b i (i-2)) (qn b i (i-16)) (qn b i (i-7)))):
  LX w (wr.setCell ⟨SS+1+1,i,none⟩ (.int .u32 x)) s b SS (i+1):=by
 refine⟨h.sS.other _ _ (by omega),h.sR.other _ _ (by omega),h.fR.set _ _,?_,h.fW.set _ _,h.below.setCell (by have:=h.at9;show w.heap.size<=SS+1+1;omega) _,h.at9,by simpa using h.lt⟩;refine(h.sW.set i x).congr fun j _=>?_
 show _=(if j=i then _ else _)
 rw[<-hx]
theorem LX.slice{w wr:World}{s:S8}{b:List Nat}{SS i:Nat}(h:LX w wr s b SS i){g o:Nat}{v:Value}(hc:w.cell? ⟨g,o,none⟩=some v):wr.cell? ⟨g,o,none⟩=some v:=jj hc h.below
theorem bkw_start(w:World)(s:S8)(b:List Nat)(t1 t2 t3:TypeId)(Z:Array Value)(hZ:Z=Array.replicate 64 (.int .u32 0)):
  LX w (((w.alloc (.cells #[.int .u32 s.a,.int .u32 s.b,.int .u32 s.c,.int .u32 s.d,.int .u32 s.e,.int .u32 s.f,.int .u32 s.g,.int .u32 s.h] t1)).alloc (.cells #[.int .u32 0,.int .u32 0,.int .u32 0,.int .u32 0,.int .u32 0,.int .u32 0,.int .u32 0,.int .u32 0] t2)).alloc (.cells Z t3)) s b w.heap.size 0:=by
 have h1:=KA.new (k:=.u32) w s.list #[.int .u32 s.a,.int .u32 s.b,.int .u32 s.c,.int .u32 s.d,.int .u32 s.e,.int .u32 s.f,.int .u32 s.g,.int .u32 s.h] rfl t1 _ rfl;obtain⟨w1,e1⟩:=je (w.alloc (.cells #[.int .u32 s.a,.int .u32 s.b,.int .u32 s.c,.int .u32 s.d,.int .u32 s.e,.int .u32 s.f,.int .u32 s.g,.int .u32 s.h] t1));have n1:w1.heap.size=w.heap.size+1:=by rw[e1];simp
 have b1:=jc e1;rw[<-e1] at h1⊢;clear e1;have h3:=KA.zero (k:=.u32) w1 8 #[.int .u32 0,.int .u32 0,.int .u32 0,.int .u32 0,.int .u32 0,.int .u32 0,.int .u32 0,.int .u32 0] rfl t2 _ rfl;have f3:=Y0.new w1 #[.int .u32 0,.int .u32 0,.int .u32 0,.int .u32 0,.int .u32 0,.int .u32 0,.int .u32 0,.int .u32 0] t2 8;obtain⟨w3,e3⟩:=je (w1.alloc (.cells #[.int .u32 0,.int .u32 0,.int .u32 0,.int .u32 0,.int .u32 0,.int .u32 0,.int .u32 0,.int .u32 0] t2));have n3:w3.heap.size=w1.heap.size+1:=by rw[e3];simp
 have b3:=jc e3;rw[<-e3] at h3 f3⊢;clear e3;have h4:=KA.zero (k:=.u32) w3 64 Z hZ t3 _ rfl;have f4:=Y0.new w3 Z t3 64;obtain⟨w4,e4⟩:=je (w3.alloc (.cells Z t3));have n4:w4.heap.size=w3.heap.size+1:=by rw[e4];simp
 have b4:=jc e4;rw[<-e4] at h4 f4⊢;clear e4;rw[n1] at n3 h3 f3;rw[n3] at n4 h4 f4;exact⟨(h1.later b3).later b4,h3.later b4,f3.later b4 (by omega),h4,f4,jm (jm b1 b3) b4,rfl,by omega⟩
structure BkN(w wr:World)(s:S8)(b:List Nat)(SS NN:Nat)(A:Nat->Nat):Prop where
 base:LX w wr s b SS 64
 nn:KA .u32 wr NN 0 8 A
 fN:Y0 wr NN 8
 gt:SS+1+1<NN
 lt:NN<wr.heap.size
theorem BkN.later{w wr w':World}{s:S8}{b:List Nat}{SS NN:Nat}{A:Nat->Nat}(h:BkN w wr s b SS NN A)(hb:Below wr.heap.size wr w'):BkN w w' s b SS NN A:=
 ⟨h.base.later hb,h.nn.later hb,h.fN.later hb h.lt,h.gt,jv h.lt hb.size⟩
theorem LX.other{w wr:World}{s:S8}{b:List Nat}{SS i NN:Nat}(h:LX w wr s b SS i)(hg:SS+1+1<NN)(c:Nat)(v:Value):LX w (wr.setCell ⟨NN,c,none⟩ v) s b SS i:=
 ⟨h.sS.other _ _ (by omega),h.sR.other _ _ (by omega),h.fR.set _ _,h.sW.other _ _ (by omega),h.fW.set _ _,h.below.setCell (by have:=h.at9;show w.heap.size<=NN;omega) _,h.at9,by simpa using h.lt⟩
theorem BkN.set{w wr:World}{s:S8}{b:List Nat}{SS NN:Nat}{A:Nat->Nat}(h:BkN w wr s b SS NN A)(c x:Nat)(C:Nat->Nat)(hC:∀j,C j=if j=c then x else A j):BkN w (wr.setCell ⟨NN,c,none⟩ (.int .u32 x)) s b SS NN C:=
 ⟨h.base.other h.gt _ _,(h.nn.set c x).congr fun j _=>(hC j).symm,h.fN.set _ _,h.gt,by simpa using h.lt⟩
theorem BkN.set8{w wr:World}{s:S8}{b:List Nat}{SS NN:Nat}{A:Nat->Nat}(h:BkN w wr s b SS NN A)(x0 x1 x2 x3 x4 x5 x6 x7:Nat)(C:Nat->Nat)(hC:C=zK [x0,x1,x2,x3,x4,x5,x6,x7]):
  BkN w ((((((((wr.setCell ⟨NN,0,none⟩ (.int .u32 x0)).setCell ⟨NN,1,none⟩ (.int .u32 x1)).setCell ⟨NN,2,none⟩ (.int .u32 x2)).setCell ⟨NN,3,none⟩ (.int .u32 x3)).setCell ⟨NN,4,none⟩ (.int .u32 x4)).setCell ⟨NN,5,none⟩ (.int .u32 x5)).setCell ⟨NN,6,none⟩ (.int .u32 x6)).setCell ⟨NN,7,none⟩ (.int .u32 x7)) s b SS NN C:=by
 have h9:=(((((((h.set 0 x0 _ fun _=>rfl).set 1 x1 _ fun _=>rfl).set 2 x2 _ fun _=>rfl).set 3 x3 _ fun _=>rfl).set 4 x4 _ fun _=>rfl).set 5 x5 _ fun _=>rfl).set 6 x6 _ fun _=>rfl).set 7 x7 _ fun _=>rfl
 refine⟨h9.base,h9.nn.congr fun j hj=>?_,h9.fN,h9.gt,h9.lt⟩;rw[hC]
 rcases(show j=0∨j=1∨j=2∨j=3∨j=4∨j=5∨j=6∨j=7 by omega) with rfl|rfl|rfl|rfl|rfl|rfl|rfl|rfl<;>rfl
theorem bkn_start{w wr:World}{s:S8}{b:List Nat}{SS:Nat}(h:LX w wr s b SS 64)(t:TypeId):
  BkN w (wr.alloc (.cells #[.int .u32 s.a,.int .u32 s.b,.int .u32 s.c,.int .u32 s.d,.int .u32 s.e,.int .u32 s.f,.int .u32 s.g,.int .u32 s.h] t)) s b SS wr.heap.size (zK s.list):=
 ⟨h.later (ja),KA.new (k:=.u32) wr s.list #[.int .u32 s.a,.int .u32 s.b,.int .u32 s.c,.int .u32 s.d,.int .u32 s.e,.int .u32 s.f,.int .u32 s.g,.int .u32 s.h] rfl t _ rfl,Y0.new _ _ _ _,h.lt,by simp⟩
theorem mix2(x a b:Nat):QS x [a,b]=Qb x a^^^Qb x b:=by unfold QS;simp
theorem mix3(x a b c:Nat):QS x [a,b,c]=(Qb x a^^^Qb x b)^^^Qb x c:=by unfold QS;simp
theorem not32{e n:Nat}(he:e<2^32)(hn:n=2^32-1-e):bits BinOp.xor IntKind.u32 (if IntKind.u32.signed=true then -1 else IntKind.u32.max) (e:Int)=(n:Int):=by
 show bits BinOp.xor IntKind.u32 ((4294967295:Nat):Int) (e:Int)=(n:Int)
 rw[u32_xor_nat 4294967295 e (by omega) (by omega),hn]
 congr 1
 refine Nat.eq_of_testBit_eq fun i=>?_
 have h1:(2^32-1-e).testBit i=(decide (i<32)&&!e.testBit i):=by
  rw[show 2^32-1-e=2^32-(e+1) by omega];exact Nat.testBit_two_pow_sub_succ he i
 rw[Nat.testBit_xor,h1,show(4294967295:Nat)=2^32-1 from rfl,Nat.testBit_two_pow_sub_one]
 by_cases hi:i<32
 ·rw[decide_eq_true hi]
  cases e.testBit i<;>rfl
 ·have h3:e.testBit i=false:=Nat.testBit_lt_two_pow (jv he (Nat.pow_le_pow_right (by decide) (by omega)));rw[decide_eq_false hi,h3]
  rfl
theorem pJ{k:IntKind}{w:World}{g o n c:Nat}{l:List Nat}(h:F7 k w (.slice (some ⟨g,o,none⟩) n c) l){i:Nat}(hi:i<l.length):w.cell? ⟨g,o+i,none⟩=some (.int k (zK l i)):=by
 obtain⟨ao,cap,e,h1,h2,h3,h4⟩:=h;obtain⟨g',o',e2,h5⟩:=h4 (by omega);rw[e2] at e;injection e with e3 _ _
 injection e3 with e4
 injection e4 with e5 e6 _
 rw[e5,e6];exact h5 i _ (ZP hi)
theorem IZ{s:S8}{b:List Nat}{gb ob cb gk ok ck:Nat}(hs:s.Ok)(hb:qk b)(hl:b.length=64)(w:World)(hB:F7 .u8 w (.slice (some ⟨gb,ob,none⟩) 64 cb) b)(hK:F7 .u32 w (.slice (some ⟨gk,ok,none⟩) 64 ck) ZG):
  Calls prog 249 #[s.val,.slice (some ⟨gb,ob,none⟩) 64 cb,.slice (some ⟨gk,ok,none⟩) 64 ck] w fun e w'=>e=.returned (takeB s b).val/\Below w.heap.size w w':=by
 have HS:=jh (fun t1 t2 t3=>bkw_start w s b t1 t2 t3);have dU:=jh hb;have HOk:=jh hs;have HBC:=jh (show∀i,i<64->w.cell? ⟨gb,ob+i,none⟩=some (.int .u8 (zK b i)) from fun i hi=>pJ hB (by rw[hl];exact hi));have HKC:=jh (show∀i,i<64->w.cell? ⟨gk,ok+i,none⟩=some (.int .u32 (zK ZG i)) from fun i hi=>pJ hK (by exact hi));have CR:=jh (fun(x k:Nat) (n:Int) (hx:x<2^32) (h1:1<=k) (h2:k<=31) (hn:n=(k:Int)) (y:Nat) (hy:y=Qb x k)=>show∀W:World,Calls prog 274 #[.int .u32 x,.int .u64 n] W (fun e w'=>e=.returned (.int .u32 y)/\Below W.heap.size W w') from fun W=>(RRot_any hx h1 h2 n hn W).mono (fun _ _ h=>⟨by rw[h.1,hy],h.2▸U3⟩));clear hs hb hl hB hK;unfold S8.val
 go_enter func249,ntmps249
 go_wp2_with fail
 go_loopw [8] (fun i wr=>∃k:Nat,k<=16/\i=.int .i64 k/\Hid (LX w wr s b w.heap.size k)) (fun i _=>16-(intOf i).toNat)
 case atStart=>exact⟨0,Nat.zero_le _,rfl,jh (HS.out _ _ _ _ rfl)⟩
 case round=>
  clear HS;obtain⟨k,hk,rfl,HT⟩:=hrel
  by_cases hlt:k<16
  ·obtain⟨m0,hm0⟩:=je (4*k+0);obtain⟨m1,hm1⟩:=je (4*k+1);obtain⟨m2,hm2⟩:=je (4*k+2);obtain⟨m3,hm3⟩:=je (4*k+3);have r0:=HT.out.slice (HBC.out m0 (by omega));have r1:=HT.out.slice (HBC.out m1 (by omega));have r2:=HT.out.slice (HBC.out m2 (by omega));have r3:=HT.out.slice (HBC.out m3 (by omega));have i0:(4:Int)*(k:Int)=(m0:Int):=by omega
   have i1:(m0:Int)+1=(m1:Int):=by omega
   have i2:(m0:Int)+2=(m2:Int):=by omega
   have i3:(m0:Int)+3=(m3:Int):=by omega
   have HX:=jh (show swd b k=zK b m0*16777216+zK b m1*65536+zK b m2*256+zK b m3 by rw[hm0,hm1,hm2,hm3];rfl);have y0:=Qv dU.out m0
   generalize zK b m0=x0 at r0 HX y0
   have y1:=Qv dU.out m1
   generalize zK b m1=x1 at r1 HX y1
   have y2:=Qv dU.out m2
   generalize zK b m2=x2 at r2 HX y2
   have y3:=Qv dU.out m3
   generalize zK b m3=x3 at r3 HX y3
   have IA:=HT;clear HT;have b0:(m0:Int)<64:=by omega
   have b1:(m1:Int)<64:=by omega
   have b2:(m2:Int)<64:=by omega
   have b3:(m3:Int)<64:=by omega
   have O6:(k:Int)<16:=by omega
   have v0:=Jm (n:=m0) (by omega);have v1:=Jm (n:=m1) (by omega);have v2:=Jm (n:=m2) (by omega);have v3:=Jm (n:=m3) (by omega);have u0:=IG (n:=x0) (by omega);have u1:=IG (n:=x1) (by omega);have u2:=IG (n:=x2) (by omega);have u3:=IG (n:=x3) (by omega);obtain⟨X0,hX0⟩:=je (x0*16777216);obtain⟨X1,hX1⟩:=je (x1*65536);obtain⟨X2,hX2⟩:=je (x2*256);obtain⟨Y1,hY1⟩:=je (X0+X1);obtain⟨Y2,hY2⟩:=je (Y1+X2);obtain⟨Y3,hY3⟩:=je (Y2+x3);have c0:=gI x0 16777216 X0 (by omega) (by omega);have c1:=gI x1 65536 X1 (by omega) (by omega);have c2:=gI x2 256 X2 (by omega) (by omega);have o1:=vI (x:=X0) (y:=X1) (k:=24) (by omega) (by omega) (by omega) (by omega);have o2:=vI (x:=Y1) (y:=X2) (k:=16) (by omega) (by omega) (by omega) (by omega);have o3:=vI (x:=Y2) (y:=x3) (k:=8) (by omega) (by omega) (by omega) (by omega);rw[<-hY1] at o1;rw[<-hY2] at o2;rw[<-hY3] at o3;have HX:=jh (show Y3=swd b k by rw[HX.out];omega);have G7:=jh hlt;clear hm0 hm1 hm2 hm3 hlt hX0 hX1 hX2 hY1 hY2 hY3 y0 y1 y2 y3
   go_wp2_with fail
   refine zM 35 (fun F O9 hcl hbl=>?_);have r0:=fun X9:Wd F=>jj r0 (hbl X9.world X9.fact)
   have r1:=fun X9:Wd F=>jj r1 (hbl X9.world X9.fact)
   have r2:=fun X9:Wd F=>jj r2 (hbl X9.world X9.fact)
   have r3:=fun X9:Wd F=>jj r3 (hbl X9.world X9.fact)
   have I5:=jh hcl;clear hcl hbl;refine zL 35 ?_;simp only[zo,zn,zm,zl,Nat.reduceAdd]
   repeat (go_big_quiet_step (fail))
   refine wpQuiet_nil ?_;refine jS ?_;intro bs w2 hb _ _;clear r0 r1 r2 r3 I5;simp only[over];have HT2:=jh (IA.out.later hb);have q0:=jy HT2.out.sW (j:=k) (by have:=G7.out;omega);have f0:=HT2.out.fW k (by have:=G7.out;omega)
   go_wp2_with fail
   go_roundw
   case rel=>exact⟨k+1,by have:=G7.out;omega,by go_num,jh (HT2.out.set Y3 (by rw[if_pos G7.out];exact HX.out))⟩
   case measure=>(simp[intOf];have:=G7.out;omega)
  ·obtain rfl:k=16:=by omega
   obtain⟨wo,rfl⟩:∃wo:World,wo=wr:=⟨_,rfl⟩;have HT0:=HT;clear HT hk hlt
   go_wp2_with fail
   go_loopw [9] (fun i wr=>∃k:Nat,16<=k/\k<=64/\i=.int .i64 k/\Hid (LX w wr s b w.heap.size k)) (fun i _=>64-(intOf i).toNat)
   case atStart=>exact⟨16,Nat.le_refl _,by omega,rfl,HT0⟩
   case round=>
    clear HT0;obtain⟨k,h16,hk,rfl,HT⟩:=hrel
    by_cases hlt:k<64
    ·obtain⟨m0,hm0⟩:=je (k-15);obtain⟨m1,hm1⟩:=je (k-2);obtain⟨m2,hm2⟩:=je (k-16);obtain⟨m3,hm3⟩:=je (k-7);have r0:=jy HT.out.sW (j:=m0) (by omega);have r1:=jy HT.out.sW (j:=m1) (by omega);have r2:=jy HT.out.sW (j:=m2) (by omega);have r3:=jy HT.out.sW (j:=m3) (by omega);have i0:(k:Int)-15=(m0:Int):=by omega
     have i1:(k:Int)-2=(m1:Int):=by omega
     have i2:(k:Int)-16=(m2:Int):=by omega
     have i3:(k:Int)-7=(m3:Int):=by omega
     have HX:=jh (show IK (qn b k m0) (qn b k m1) (qn b k m2) (qn b k m3)=IK (qn b k (k-15)) (qn b k (k-2)) (qn b k (k-16)) (qn b k (k-7)) by rw[hm0,hm1,hm2,hm3]);have y0:=Jr dU.out k m0
     generalize qn b k m0=x at r0 HX y0
     have y1:=Jr dU.out k m1
     generalize qn b k m1=y at r1 HX y1
     have y2:=Jr dU.out k m2
     generalize qn b k m2=p at r2 HX y2
     have y3:=Jr dU.out k m3
     generalize qn b k m3=q at r3 HX y3
     have b0:(m0:Int)<64:=by omega
     have b1:(m1:Int)<64:=by omega
     have b2:(m2:Int)<64:=by omega
     have b3:(m3:Int)<64:=by omega
     have O6:(k:Int)<64:=by omega
     have v0:=Jm (n:=m0) (by omega);have v1:=Jm (n:=m1) (by omega);have v2:=Jm (n:=m2) (by omega);have v3:=Jm (n:=m3) (by omega);obtain⟨ga,hga⟩:=je (Qb x 7);have lga:ga<2^32:=by rw[hga];exact JB y0 (by decide)
     have Cga:=jh (CR.out x 7 7 y0 (by decide) (by decide) rfl ga hga);obtain⟨gb9,VR⟩:=je (Qb x 18);have DY:gb9<2^32:=by rw[VR];exact JB y0 (by decide)
     have Cgb9:=jh (CR.out x 18 18 y0 (by decide) (by decide) rfl gb9 VR);obtain⟨gc,hgc⟩:=je (Qb y 17);have lgc:gc<2^32:=by rw[hgc];exact JB y1 (by decide)
     have Cgc:=jh (CR.out y 17 17 y1 (by decide) (by decide) rfl gc hgc);obtain⟨gd,hgd⟩:=je (Qb y 19);have lgd:gd<2^32:=by rw[hgd];exact JB y1 (by decide)
     have Cgd:=jh (CR.out y 19 19 y1 (by decide) (by decide) rfl gd hgd);obtain⟨g1,hg1⟩:=je (ga^^^gb9);obtain⟨g2,hg2⟩:=je (gc^^^gd);have lg1:g1<2^32:=by rw[hg1];exact Nat.xor_lt_two_pow lga DY
     have lg2:g2<2^32:=by rw[hg2];exact Nat.xor_lt_two_pow lgc lgd
     obtain⟨x8,hx8⟩:=je (x/8);obtain⟨y8,hy8⟩:=je (y/1024);have d1:(x:Int)/8=(x8:Int):=by omega
     have d2:(y:Int)/1024=(y8:Int):=by omega
     obtain⟨s1,hs1⟩:=je ((p+q)%4294967296);obtain⟨t1,ht1⟩:=je (g1^^^x8);obtain⟨t2,ht2⟩:=je (g2^^^y8);obtain⟨s2,hs2⟩:=je ((s1+t1)%4294967296);obtain⟨s3,hs3⟩:=je ((s2+t2)%4294967296);have HX:=jh (show s3=IK (qn b k (k-15)) (qn b k (k-2)) (qn b k (k-16)) (qn b k (k-7)) by rw[<-HX.out];unfold IK;rw[mix2,mix2,<-hga,<-VR,<-hgc,<-hgd,<-hg1,<-hg2,<-hx8,<-hy8,<-ht1,<-ht2];omega);have oa:=YF lga DY g1 hg1;have ob9:=YF lgc lgd g2 hg2;have o1:=Za s1 hs1;have o2:=YF (by omega) (by omega) t1 ht1;have o3:=Za s2 hs2;have o4:=YF (by omega) (by omega) t2 ht2;have o5:=Za s3 hs3;have h16x:=jh h16;have G7:=jh hlt;have IA:=HT;clear HT hm0 hm1 hm2 hm3 h16 hlt hs1 ht1 ht2 hs2 hs3 hx8 hy8 hga VR hgc hgd hg1 hg2 lga DY lgc lgd lg1 lg2 y0 y1 y2 y3
     go_wp2_with fail
     refine zM 29 (fun F O9 hcl hbl=>?_);have r0:=fun X9:Wd F=>jj r0 (hbl X9.world X9.fact)
     have r1:=fun X9:Wd F=>jj r1 (hbl X9.world X9.fact)
     have r2:=fun X9:Wd F=>jj r2 (hbl X9.world X9.fact)
     have r3:=fun X9:Wd F=>jj r3 (hbl X9.world X9.fact)
     have I5:=jh hcl;clear hcl hbl;refine zL 29 ?_;simp only[zo,zn,zm,zl,Nat.reduceAdd]
     repeat (go_big_quiet_step ((first|(go_at_call 274;with_reducible exact jp I5.out (Cga.out _))|(go_at_call 274;with_reducible exact jp I5.out (Cgb9.out _))|(go_at_call 274;with_reducible exact jp I5.out (Cgc.out _))|(go_at_call 274;with_reducible exact jp I5.out (Cgd.out _)))))
     refine wpQuiet_nil ?_;refine jS ?_;intro bs w2 hb _ _;clear r0 r1 r2 r3 I5;simp only[over];have HT2:=jh (IA.out.later hb);have q0:=jy HT2.out.sW (j:=k) G7.out;have f0:=HT2.out.fW k G7.out
     go_wp2_with fail
     go_roundw
     case rel=>exact⟨k+1,by have:=h16x.out;omega,by have:=G7.out;omega,by go_num,jh (HT2.out.set s3 (by rw[if_neg (by have:=h16x.out;omega)];exact HX.out))⟩
     case measure=>(simp[intOf];have:=G7.out;omega)
    ·obtain rfl:k=64:=by omega
     obtain⟨wp,rfl⟩:∃wp:World,wp=wr:=⟨_,rfl⟩;have IA:=HT;clear HT hk h16 hlt;have c0:wp.cell? ⟨w.heap.size,0,none⟩=some (.int .u32 s.a):=jy IA.out.sS (j:=0) (by decide);have c1:wp.cell? ⟨w.heap.size,1,none⟩=some (.int .u32 s.b):=jy IA.out.sS (j:=1) (by decide);have c2:wp.cell? ⟨w.heap.size,2,none⟩=some (.int .u32 s.c):=jy IA.out.sS (j:=2) (by decide);have c3:wp.cell? ⟨w.heap.size,3,none⟩=some (.int .u32 s.d):=jy IA.out.sS (j:=3) (by decide);have c4:wp.cell? ⟨w.heap.size,4,none⟩=some (.int .u32 s.e):=jy IA.out.sS (j:=4) (by decide);have c5:wp.cell? ⟨w.heap.size,5,none⟩=some (.int .u32 s.f):=jy IA.out.sS (j:=5) (by decide);have c6:wp.cell? ⟨w.heap.size,6,none⟩=some (.int .u32 s.g):=jy IA.out.sS (j:=6) (by decide);have c7:wp.cell? ⟨w.heap.size,7,none⟩=some (.int .u32 s.h):=jy IA.out.sS (j:=7) (by decide)
     go_upto_region 13 with fail
     clear c0 c1 c2 c3 c4 c5 c6 c7;obtain⟨NN,hNN⟩:=je (wp.heap.size);have HN:=jh (bkn_start IA.out 305);rw[<-hNN] at HN;rw[<-hNN];obtain⟨w1,e1⟩:=je (wp.alloc (.cells #[.int .u32 s.a,.int .u32 s.b,.int .u32 s.c,.int .u32 s.d,.int .u32 s.e,.int .u32 s.f,.int .u32 s.g,.int .u32 s.h] 305));rw[<-e1] at HN;rw[<-e1];clear e1 hNN IA
     go_wp2_with fail
     go_loopw [13] (fun i wr=>∃k:Nat,k<=64/\i=.int .i64 k/\Hid (BkN w wr s b w.heap.size NN (zK (ZZ b s k).list))) (fun i _=>64-(intOf i).toNat)
     case atStart=>exact⟨0,Nat.zero_le _,rfl,HN⟩
     case round=>
      clear HN;obtain⟨k,hk,rfl,HT⟩:=hrel
      by_cases hlt:k<64
      ·have O6:(k:Int)<64:=by omega
       have rk:=HT.out.base.slice (HKC.out k hlt);have rw9:=jy HT.out.base.sW (j:=k) hlt;have G7:=jh hlt;have y0:=shaK_lt k;have y1:=Jr dU.out 64 k;have IA:=HT;have hok:=XJ b HOk.out k;have HR:=jh (show ZZ b s (k+1)=rnd (ZZ b s k) (zK ZG k) (qn b 64 k) from rfl);obtain⟨z,hz⟩:=je (ZZ b s k);rw[<-hz] at IA hok HR;clear hz HT
       generalize zK ZG k=kk at rk HR y0
       generalize qn b 64 k=wk at rw9 HR y1
       obtain⟨za,zb,zc,zd,ze,zf,zg,zh⟩:=z;obtain⟨l0,l1,l2,l3,l4,l5,l6,l7⟩:=hok;simp only at l0 l1 l2 l3 l4 l5 l6 l7;clear hlt;obtain⟨c0,c1,c2,c3,c4,c5,c6,c7⟩:=Jj IA.out.nn;obtain⟨ga,hga⟩:=je (Qb ze 6);have lga:ga<2^32:=by rw[hga];exact JB l4 (by decide)
       have Cga:=jh (CR.out ze 6 6 l4 (by decide) (by decide) rfl ga hga);obtain⟨gb9,VR⟩:=je (Qb ze 11);have DY:gb9<2^32:=by rw[VR];exact JB l4 (by decide)
       have Cgb9:=jh (CR.out ze 11 11 l4 (by decide) (by decide) rfl gb9 VR);obtain⟨gc,hgc⟩:=je (Qb ze 25);have lgc:gc<2^32:=by rw[hgc];exact JB l4 (by decide)
       have Cgc:=jh (CR.out ze 25 25 l4 (by decide) (by decide) rfl gc hgc);obtain⟨gd,hgd⟩:=je (Qb za 2);have lgd:gd<2^32:=by rw[hgd];exact JB l0 (by decide)
       have Cgd:=jh (CR.out za 2 2 l0 (by decide) (by decide) rfl gd hgd);obtain⟨ge,hge⟩:=je (Qb za 13);have lge:ge<2^32:=by rw[hge];exact JB l0 (by decide)
       have Cge:=jh (CR.out za 13 13 l0 (by decide) (by decide) rfl ge hge);obtain⟨gf,hgf⟩:=je (Qb za 22);have lgf:gf<2^32:=by rw[hgf];exact JB l0 (by decide)
       have Cgf:=jh (CR.out za 22 22 l0 (by decide) (by decide) rfl gf hgf);obtain⟨f1,hf1⟩:=je (ga^^^gb9);obtain⟨g1,hg1⟩:=je (f1^^^gc);obtain⟨f2,hf2⟩:=je (gd^^^ge);obtain⟨g2,hg2⟩:=je (f2^^^gf);have lf1:f1<2^32:=by rw[hf1];exact Nat.xor_lt_two_pow lga DY
       have lg1:g1<2^32:=by rw[hg1];exact Nat.xor_lt_two_pow lf1 lgc
       have lf2:f2<2^32:=by rw[hf2];exact Nat.xor_lt_two_pow lgd lge
       have lg2:g2<2^32:=by rw[hg2];exact Nat.xor_lt_two_pow lf2 lgf
       obtain⟨x1,hx1⟩:=je (ze&&&zf);obtain⟨ne,hne⟩:=je (2^32-1-ze);obtain⟨x2,hx2⟩:=je (ne&&&zg);obtain⟨x3,hx3⟩:=je (x1^^^x2);have n1:x1<2^32:=by rw[hx1];exact Nat.and_lt_two_pow _ l5
       have n0:ne<2^32:=by omega
       have n2:x2<2^32:=by rw[hx2];exact Nat.and_lt_two_pow _ l6
       have n3:x3<2^32:=by rw[hx3];exact Nat.xor_lt_two_pow n1 n2
       obtain⟨a1,ha1⟩:=je ((zh+g1)%4294967296);obtain⟨a2,ha2⟩:=je ((a1+x3)%4294967296);obtain⟨a3,ha3⟩:=je ((a2+kk)%4294967296);obtain⟨a4,ha4⟩:=je ((a3+wk)%4294967296);obtain⟨p1,hp1⟩:=je (za&&&zb);obtain⟨p2,hp2⟩:=je (za&&&zc);obtain⟨p3,hp3⟩:=je (p1|||p2);obtain⟨p4,hp4⟩:=je (zb&&&zc);obtain⟨p5,hp5⟩:=je (p3|||p4);have n4:p1<2^32:=by rw[hp1];exact Nat.and_lt_two_pow _ l1
       have n5:p2<2^32:=by rw[hp2];exact Nat.and_lt_two_pow _ l2
       have n6:p3<2^32:=by rw[hp3];exact Nat.or_lt_two_pow n4 n5
       have n7:p4<2^32:=by rw[hp4];exact Nat.and_lt_two_pow _ l2
       obtain⟨b1,hb1⟩:=je ((g2+p5)%4294967296);obtain⟨b2,hb2⟩:=je ((a4+b1)%4294967296);obtain⟨b3,hb3⟩:=je ((zd+a4)%4294967296);have nI:=not32 l4 hne;have q1:=YF lga DY f1 hf1;have q2:=YF lf1 lgc g1 hg1;have q3:=YF lgd lge f2 hf2;have q4:=YF lf2 lgf g2 hg2;have q5:=vT l4 l5 x1 hx1;have q6:=vT n0 l6 x2 hx2;have q7:=YF n1 n2 x3 hx3;have q8:=vT l0 l1 p1 hp1;have q9:=vT l0 l2 p2 hp2;have qa:=u32_or n4 n5 hp3.symm;have qb:=vT l1 l2 p4 hp4;have qc:=u32_or n6 n7 hp5.symm;have o0:=Za a1 ha1;have o1:=Za a2 ha2;have o2:=Za a3 ha3;have o3:=Za a4 ha4;have o4:=Za b1 hb1;have o5:=Za b2 hb2;have o6:=Za b3 hb3
       have HR:=jh (show ZZ b s (k+1)=⟨b2,za,zb,zc,b3,ze,zf,zg⟩ by
        rw[HR.out];unfold rnd shaT;dsimp only;rw[mix3,mix3,<-ch_eq l4 l6,<-maj_eq,<-hga,<-VR,<-hgc,<-hgd,<-hge,<-hgf,<-hf1,<-hf2,<-hg1,<-hg2,<-hx1,<-hne,<-hx2,<-hx3,<-hp1,<-hp2,<-hp3,<-hp4,<-hp5]
        congr 1<;>omega)
       clear hga VR hgc hgd hge hgf hf1 hf2 hg1 hg2 hx1 hne hx2 hx3 ha1 ha2 ha3 ha4 hb1 hb2 hb3 hp1 hp2 hp3 hp4 hp5 n0 n1 n2 n3 n4 n5 n6 n7 l0 l1 l2 l3 l4 l5 l6 l7 lga DY lgc lgd lge lgf lf1 lf2 lg1 lg2 y0 y1
       go_upto_region 18 with fail
       refine zM 31 (fun F O9 hcl hbl=>?_);have c0:=fun X9:Wd F=>jj c0 (hbl X9.world X9.fact)
       have c1:=fun X9:Wd F=>jj c1 (hbl X9.world X9.fact)
       have c2:=fun X9:Wd F=>jj c2 (hbl X9.world X9.fact)
       have c3:=fun X9:Wd F=>jj c3 (hbl X9.world X9.fact)
       have c4:=fun X9:Wd F=>jj c4 (hbl X9.world X9.fact)
       have c5:=fun X9:Wd F=>jj c5 (hbl X9.world X9.fact)
       have c6:=fun X9:Wd F=>jj c6 (hbl X9.world X9.fact)
       have c7:=fun X9:Wd F=>jj c7 (hbl X9.world X9.fact)
       have rk:=fun X9:Wd F=>jj rk (hbl X9.world X9.fact)
       have rw9:=fun X9:Wd F=>jj rw9 (hbl X9.world X9.fact)
       have I5:=jh hcl;clear hcl hbl;refine zL 31 ?_;simp only[zo,zn,zm,zl,Nat.reduceAdd]
       repeat (go_big_quiet_step ((first|(go_at_call 274;with_reducible exact jp I5.out (Cga.out _))|(go_at_call 274;with_reducible exact jp I5.out (Cgb9.out _))|(go_at_call 274;with_reducible exact jp I5.out (Cgc.out _)))))
       refine wpQuiet_nil ?_;refine jS ?_;intro bs w2 hb _ _;clear c0 c1 c2 c3 c4 c5 c6 c7 rk rw9 I5;simp only[over];have IA:=jh (IA.out.later hb);clear hb;obtain⟨c0,c1,c2,c3,c4,c5,c6,c7⟩:=Jj IA.out.nn
       go_upto_region 19 with fail
       refine zM 24 (fun F O9 hcl hbl=>?_);have c0:=fun X9:Wd F=>jj c0 (hbl X9.world X9.fact)
       have c1:=fun X9:Wd F=>jj c1 (hbl X9.world X9.fact)
       have c2:=fun X9:Wd F=>jj c2 (hbl X9.world X9.fact)
       have c3:=fun X9:Wd F=>jj c3 (hbl X9.world X9.fact)
       have c4:=fun X9:Wd F=>jj c4 (hbl X9.world X9.fact)
       have c5:=fun X9:Wd F=>jj c5 (hbl X9.world X9.fact)
       have c6:=fun X9:Wd F=>jj c6 (hbl X9.world X9.fact)
       have c7:=fun X9:Wd F=>jj c7 (hbl X9.world X9.fact)
       have I5:=jh hcl;clear hcl hbl;refine zL 24 ?_;simp only[zo,zn,zm,zl,Nat.reduceAdd]
       repeat (go_big_quiet_step ((first|(go_at_call 274;with_reducible exact jp I5.out (Cgd.out _))|(go_at_call 274;with_reducible exact jp I5.out (Cge.out _))|(go_at_call 274;with_reducible exact jp I5.out (Cgf.out _)))))
       refine wpQuiet_nil ?_;refine jS ?_;intro bs w3 hb _ _;clear c0 c1 c2 c3 c4 c5 c6 c7 I5;simp only[over];have IA:=jh (IA.out.later hb);clear hb;obtain⟨c0,c1,c2,c3,c4,c5,c6,c7⟩:=Jj IA.out.nn;have fa:=IA.out.fN 0 (by decide);have fb:=IA.out.fN 1 (by decide);have fc:=IA.out.fN 2 (by decide);have fd:=IA.out.fN 3 (by decide);have fe:=IA.out.fN 4 (by decide);have ff:=IA.out.fN 5 (by decide);have fg:=IA.out.fN 6 (by decide);have fh:=IA.out.fN 7 (by decide)
       go_wp2_with fail
       go_roundw
       case rel=>exact⟨k+1,by have:=G7.out;omega,by go_num,jh (IA.out.set8 _ _ _ _ _ _ _ _ _ (by rw[HR.out];rfl))⟩
       case measure=>(simp[intOf];have:=G7.out;omega)
      ·obtain rfl:k=64:=by omega
       obtain⟨wq,rfl⟩:∃wq:World,wq=wr:=⟨_,rfl⟩;have IA:=HT;clear HT hlt hk;have HF:=jh (show takeB s b=(ZZ b s 64).plus s from rfl);obtain⟨z,hz⟩:=je (ZZ b s 64);rw[<-hz] at IA HF;clear hz
       go_wp2_with fail
       go_loopw [18] (fun i wr=>∃k:Nat,k<=8/\i=.int .i64 k/\Hid (BkN w wr s b w.heap.size NN (EF z s k))) (fun i _=>8-(intOf i).toNat)
       case atStart=>exact⟨0,Nat.zero_le _,rfl,jh (by rw[YK];exact IA.out)⟩
       case round=>
        clear IA;obtain⟨k,hk,rfl,HT⟩:=hrel
        by_cases hlt:k<8
        ·have O6:(k:Int)<8:=by omega
         have G7:=jh hlt;have FC:=HT;have r0:=jy HT.out.nn hlt;rw[dL] at r0;have r1:=jy HT.out.base.sS hlt;have nD:=jh (iL z s k)
         generalize zK z.list k=x at r0 nD
         generalize zK s.list k=y at r1 nD
         obtain⟨t,ht⟩:=je ((x+y)%4294967296);have o1:=Za t ht;rw[<-ht] at nD;clear ht HT hlt
         go_wp2_with fail
         refine zM 9 (fun F O9 hcl hbl=>?_);have r0:=fun X9:Wd F=>jj r0 (hbl X9.world X9.fact)
         have r1:=fun X9:Wd F=>jj r1 (hbl X9.world X9.fact)
         have I5:=jh hcl;clear hcl hbl;refine zL 9 ?_;simp only[zo,zn,zm,zl,Nat.reduceAdd]
         repeat (go_big_quiet_step (fail))
         refine wpQuiet_nil ?_;refine jS ?_;intro bs w2 hb _ _;clear r0 r1 I5;simp only[over];have HT2:=jh (FC.out.later hb);have q0:=jy HT2.out.nn G7.out;have f0:=HT2.out.fN k G7.out
         go_wp2_with fail
         go_roundw
         case rel=>exact⟨k+1,by have:=G7.out;omega,by go_num,jh (HT2.out.set k t _ nD.out)⟩
         case measure=>(simp[intOf];have:=G7.out;omega)
        ·obtain rfl:k=8:=by omega
         have FC:=HT;clear HT;have hnn:=FC.out.nn.congr (FP z s);rw[<-HF.out] at hnn;obtain⟨u,hu⟩:=je (takeB s b);rw[<-hu] at hnn;obtain⟨ua,ub,uc,ud,ue,uf,ug,uh⟩:=u;have HU:=jh hu;clear hu;obtain⟨c0,c1,c2,c3,c4,c5,c6,c7⟩:=Jj hnn;have q0:=jy FC.out.base.sR (j:=0) (by decide);have q1:=jy FC.out.base.sR (j:=1) (by decide);have q2:=jy FC.out.base.sR (j:=2) (by decide);have q3:=jy FC.out.base.sR (j:=3) (by decide);have q4:=jy FC.out.base.sR (j:=4) (by decide);have q5:=jy FC.out.base.sR (j:=5) (by decide);have q6:=jy FC.out.base.sR (j:=6) (by decide);have q7:=jy FC.out.base.sR (j:=7) (by decide);have f0:=FC.out.base.fR 0 (by decide);have f1:=FC.out.base.fR 1 (by decide);have f2:=FC.out.base.fR 2 (by decide);have f3:=FC.out.base.fR 3 (by decide);have f4:=FC.out.base.fR 4 (by decide);have f5:=FC.out.base.fR 5 (by decide);have f6:=FC.out.base.fR 6 (by decide);have f7:=FC.out.base.fR 7 (by decide);clear hnn
         go_wp2_with fail
         have B9:=tN (B:=w.heap.size+1) FC.out.base.below (by omega) (.int .u32 ua) (.int .u32 ub) (.int .u32 uc) (.int .u32 ud) (.int .u32 ue) (.int .u32 uf) (.int .u32 ug) (.int .u32 uh);obtain⟨g0,g1,g2,g3,g4,g5,g6,g7⟩:=Jj (FC.out.base.sR.set8 ua ub uc ud ue uf ug uh);rw[<-HU.out];refine bodyPost_ret (v:=.agg #[.int .u32 ua,.int .u32 ub,.int .u32 uc,.int .u32 ud,.int .u32 ue,.int .u32 uf,.int .u32 ug,.int .u32 uh]) ?_ rfl ⟨rfl,B9⟩
         simp[results,results249,go_sem,g0,g1,g2,g3,g4,g5,g6,g7]
theorem slice_blk{g o T c m:Nat}(hm:m+64<=T)(hc:T<=c)(W:World):
  (Instr.sliceAt 138 (.slice (some ⟨g,o,none⟩) T c) (some (.int .i64 (m:Nat))) (some (.int .i64 ((m+64:Nat):Int))) none).run prog W=.ok (.slice (some ⟨g,o+m,none⟩) 64 (c-m)) W:=by
 rw[run_sliceAt_slice _ _ _ _ _ _ dQ,run_slice_lh _ _ _ _ _ dQ .i64 .i64 m ((m+64:Nat):Int) (by omega) (by omega) (by omega),sizeB]
 simp[sliced,Addr.add_lit]
 omega
theorem KA.keep{k:IntKind}{w w':World}{b o n:Nat}{A:Nat->Nat}{row:Option Nat}(h:KA k w b o n A)(hg:w.grownBy w' row)(hn:some b≠row):KA k w' b o n A:=fun j hj=>hg.cell (h j hj) hn
theorem Y0.keep{w w':World}{b n:Nat}{row:Option Nat}(h:Y0 w b n)(hg:w.grownBy w' row)(hl:b<w.heap.size)(hn:some b≠row):Y0 w' b n:=fun j hj=>(by unfold World.frozen?;rw[hg.block b hl hn]:w'.frozen? ⟨b,j,none⟩=w.frozen? ⟨b,j,none⟩).trans (h j hj)
theorem shaZ_le(n:Nat):lI n<=63:=by unfold lI;omega
theorem shaZ_at{n z:Nat}(hz:z<=lI n):(n+1+z)%64=56↔z=lI n:=by
 unfold lI at*;omega
theorem wF(l:List Nat):(l++Jp l.length).length=l.length+9+lI l.length:=by
 unfold Jp
 simp[jI]
 omega
theorem oO(l:List Nat):(l++Jp l.length).length=64*((l++Jp l.length).length/64):=by
 rw[wF];unfold lI;omega
theorem at0_be4(u:S8):∀i,i<32->zK (u.list.flatMap (be 4)) i=zK u.list (i/4)/256^(3-i%4)%256:=by
 intro i hi;have e:u.list.flatMap (be 4)=[u.a/256/256/256%256,u.a/256/256%256,u.a/256%256,u.a%256,u.b/256/256/256%256,u.b/256/256%256,u.b/256%256,u.b%256,u.c/256/256/256%256,u.c/256/256%256,u.c/256%256,u.c%256,u.d/256/256/256%256,u.d/256/256%256,u.d/256%256,u.d%256,u.e/256/256/256%256,u.e/256/256%256,u.e/256%256,u.e%256,u.f/256/256/256%256,u.f/256/256%256,u.f/256%256,u.f%256,u.g/256/256/256%256,u.g/256/256%256,u.g/256%256,u.g%256,u.h/256/256/256%256,u.h/256/256%256,u.h/256%256,u.h%256]:=rfl;rw[e];have e3:∀x:Nat,x/256/256/256%256=x/256^3%256:=fun x=>by rw[Nat.div_div_eq_div_mul,Nat.div_div_eq_div_mul]
 have e2:∀x:Nat,x/256/256%256=x/256^2%256:=fun x=>by rw[Nat.div_div_eq_div_mul]
 have e1:∀x:Nat,x/256%256=x/256^1%256:=fun x=>by rw[Nat.pow_one]
 have e0:∀x:Nat,x%256=x/256^0%256:=fun x=>by rw[Nat.pow_zero,Nat.div_one]
 obtain⟨q,r,hq,hr,rfl⟩:∃q r,q<8/\r<4/\i=4*q+r:=⟨i/4,i%4,by omega,by omega,by omega⟩;rw[show(4*q+r)/4=q by omega,show(4*q+r)%4=r by omega]
 rcases(show q=0∨q=1∨q=2∨q=3∨q=4∨q=5∨q=6∨q=7 by omega) with rfl|rfl|rfl|rfl|rfl|rfl|rfl|rfl<;>rcases(show r=0∨r=1∨r=2∨r=3 by omega) with rfl|rfl|rfl|rfl<;>first|exact e3 _|exact e2 _|exact e1 _|exact e0 _
theorem qW{w w':World}{size m:Nat}{x:Value}{news:List Value}(h:ZT w size x m news)(hb:Below w.heap.size w w'):ZT w' size x m news:=by
 obtain⟨sp,c,rfl,h1,h2,h3,h4⟩:=h;exact⟨sp,c,rfl,h1,h2,h3,fun ad had j u hu=>jj (h4 ad had j u hu) hb⟩
theorem nN(x e m:Nat)(hm:m=8*e):(x:Int)/2^m%256=((x/256^e%256:Nat):Int):=by rw[hm];exact EH x e
structure Sf(w:World)(R:Nat)(wr:World):Prop where
 c:KA .u8 wr R 0 32 (fun _=>0)
 f:Y0 wr R 32
 below:Below w.heap.size w wr
 lt:R<wr.heap.size
 le:w.heap.size<=R
theorem Sf.later{w wr w':World}{R:Nat}(h:Sf w R wr)(hb:Below wr.heap.size wr w'):Sf w R w':=⟨h.c.later hb,h.f.later hb h.lt,jm h.below hb,jv h.lt hb.size,h.le⟩
theorem Sf.grown{w wr w':World}{R:Nat}{row:Option Nat}(h:Sf w R wr)(hg:wr.grownBy w' row)(hr:∀k,row=some k->R+1<=k):Sf w R w':=
 have hn:some R≠row:=fun e=>by have:=hr R e.symm;omega
 ⟨h.c.keep hg hn,h.f.keep hg h.lt hn,h.below.grown hg (Nat.le_of_lt (Nat.lt_of_le_of_lt h.le h.lt)) (fun k hk=>by have:=hr k hk;have:=h.le;omega),jv h.lt hg.size,h.le⟩
theorem Sf.app{w wr w':World}{R:Nat}{o:Obj}{e:TypeId}{size n:Nat}{v:Value}{xs:List Value}(h:Sf w R wr)(ho:O1 wr (R+1) e size v n xs)(hg:(wr.alloc o).grownBy w' v.ownBlock):Sf w R w':=
 (h.later (ja)).grown hg fun k hk=>(O1.lt ho k hk).1
theorem Sf.set{w wr:World}{R b:Nat}(h:Sf w R wr)(hb:R<b)(i:Nat)(v:Value):Sf w R (wr.setCell ⟨b,i,none⟩ v):=
 ⟨h.c.other _ _ (by omega),h.f.set _ _,h.below.setCell (by have:=h.le;show w.heap.size<=b;omega) _,by simpa using h.lt,h.le⟩
theorem F7.set{k:IntKind}{wr:World}{g o n c b:Nat}{l:List Nat}(h:F7 k wr (.slice (some ⟨g,o,none⟩) n c) l)(hn:g≠b)(i:Nat)(v:Value):F7 k (wr.setCell ⟨b,i,none⟩ v) (.slice (some ⟨g,o,none⟩) n c) l:=
 h.block fun g' hg'=>Below.heap_setCell _ _ _ g' (fun e=>by simp[Value.ownBlock] at hg';exact hn (hg'.trans e))
structure So(w:World)(R HB ga oa ca gk T:Nat)(L:List Nat)(u:S8)(wr:World):Prop where
 sf:Sf w R wr
 h:KA .u32 wr HB 0 8 (zK u.list)
 fh:Y0 wr HB 8
 all:F7 .u8 wr (.slice (some ⟨ga,oa,none⟩) T ca) L
 tab:F7 .u32 wr (.slice (some ⟨gk,0,none⟩) 64 64) ZG
 n1:ga≠HB
 n2:gk≠HB
 n3:R<HB
 lt:HB<wr.heap.size
theorem So.later{w wr w':World}{R HB ga oa ca gk T:Nat}{L:List Nat}{u:S8}(h:So w R HB ga oa ca gk T L u wr)(hb:Below wr.heap.size wr w'):So w R HB ga oa ca gk T L u w':=
 ⟨h.sf.later hb,h.h.later hb,h.fh.later hb h.lt,h.all.later hb,h.tab.later hb,h.n1,h.n2,h.n3,jv h.lt hb.size⟩
theorem So.put{w wr:World}{R HB ga oa ca gk T:Nat}{L:List Nat}{u:S8}(h:So w R HB ga oa ca gk T L u wr)(z:S8):So w R HB ga oa ca gk T L z
  ((((((((wr.setCell ⟨HB,0,none⟩ (.int .u32 z.a)).setCell ⟨HB,1,none⟩ (.int .u32 z.b)).setCell ⟨HB,2,none⟩ (.int .u32 z.c)).setCell ⟨HB,3,none⟩ (.int .u32 z.d)).setCell ⟨HB,4,none⟩ (.int .u32 z.e)).setCell ⟨HB,5,none⟩ (.int .u32 z.f)).setCell ⟨HB,6,none⟩ (.int .u32 z.g)).setCell ⟨HB,7,none⟩ (.int .u32 z.h)):=
 ⟨(((((((h.sf.set h.n3 _ _).set h.n3 _ _).set h.n3 _ _).set h.n3 _ _).set h.n3 _ _).set h.n3 _ _).set h.n3 _ _).set h.n3 _ _,h.h.set8 z.a z.b z.c z.d z.e z.f z.g z.h,
   (((((((h.fh.set _ _).set _ _).set _ _).set _ _).set _ _).set _ _).set _ _).set _ _,(((((((h.all.set h.n1 _ _).set h.n1 _ _).set h.n1 _ _).set h.n1 _ _).set h.n1 _ _).set h.n1 _ _).set h.n1 _ _).set h.n1 _ _,
   (((((((h.tab.set h.n2 _ _).set h.n2 _ _).set h.n2 _ _).set h.n2 _ _).set h.n2 _ _).set h.n2 _ _).set h.n2 _ _).set h.n2 _ _,h.n1,h.n2,h.n3,by simpa using h.lt⟩
theorem cut_blk{w:World}{g o n c:Nat}{l:List Nat}(h:F7 .u8 w (.slice (some ⟨g,o,none⟩) n c) l){m:Nat}(hm:m+64<=l.length):F7 .u8 w (.slice (some ⟨g,o+m,none⟩) 64 (c-m)) ((l.drop m).take 64):=by
 obtain⟨ao,cap,e,h1,h2,h3,h4⟩:=h;obtain⟨g',o',e2,h5⟩:=h4 (by omega);rw[e2] at e;injection e with e3 e7 e8
 injection e3 with e4
 injection e4 with e5 e6 _
 rw[e5,e6,e8];exact F7.cut h5 h1 h2 m 64 hm
theorem cat_range{k:IntKind}{w:World}{b:Nat}{l:List Nat}(h:KA k w b 0 l.length (zK l)):w.rangeAt b 0 (jo k l):=by
 intro j v hj;have hl:j<l.length:=by have:=(List.getElem?_eq_some_iff.1 hj).1;rwa [js] at this
 rw[h j hl,<-hj,qC,ZP hl]
 rfl
theorem iQ{k:IntKind}{w:World}{b n:Nat}{A:Nat->Nat}(h:KA k w b 0 n A)(hf:Y0 w b n):w.there b 0 n:=fun j hj=>by
 have h1:=h j hj;rw[Nat.zero_add] at h1⊢;exact⟨by rw[h1];rfl,hf j hj⟩
theorem out_next{D:List Nat}{i:Nat}(x:Nat)(hx:x=zK D i)(j:Nat):(if j=i then x else if j<i then zK D j else 0)=(if j<i+1 then zK D j else 0):=by
 by_cases h:j=i
 ·subst h;rw[if_pos rfl,if_pos (Nat.lt_succ_self j),hx]
 ·rw[if_neg h]
  by_cases h':j<i
  ·rw[if_pos h',if_pos (by omega)]
  ·rw[if_neg h',if_neg (by omega)]
theorem bytes_end{l:List Nat}(h:qk l):qk (l++Jp l.length):=fun x hx=>by
 rcases List.mem_append.1 hx with h1|h1
 ·exact h x h1
 ·unfold Jp at h1
  rcases List.mem_cons.1 h1 with rfl|h1
  ·decide
  ·rcases List.mem_append.1 h1 with h1|h1
   ·rw[List.eq_of_mem_replicate h1]
    decide
   ·exact qN _ _ x h1
theorem ROf5_any{l:List Nat}{v:Value}(w:World)(hv:F7 .u8 w v l)(hby:qk l)(hsz:l.length<=200000):
  Calls prog 202 #[v] w fun e w'=>e=.returned (.agg (jo .u8 (zr l)).toArray)/\Below w.heap.size w w':=by
 obtain⟨i0,hi,hz0,hz1,hz2⟩:=info_parts KF;have HI:=jh hi;have hsrc:=hv.src;obtain⟨a,c,rfl⟩:∃a c,v=.slice a l.length c:=by obtain⟨a,c,h,_⟩:=hv;exact⟨a,c,h⟩
 obtain⟨n,hn⟩:=je (l.length);rw[<-hn] at hsrc hv hsz⊢;have HN:=jh hn;have HS:=jh hsrc;have HBY:=jh hby;have hz63:=shaZ_le n;obtain⟨Z,hZ⟩:=je (lI n);rw[<-hZ] at hz63;have HZ:=jh (fun z (hz:z<=Z)=>show(n+1+z)%64=56↔z=Z by rw[hZ] at hz⊢;exact shaZ_at hz);have HL:=jh (show l++Jp l.length=l++(128::(List.replicate Z 0++be 8 (8*n))) by unfold Jp;rw[<-hn,<-hZ]);have HLN:=jh (show(l++Jp l.length).length=n+9+Z by rw[wF,<-hn,hZ]);have yC:=jh (oO l);have HSH:=jh (show zr l=(GK (l++Jp l.length) ((l++Jp l.length).length/64)).list.flatMap (be 4) from rfl);clear hi hv hsrc hn hby hZ
 go_enter func202,ntmps202
 go_upto_region 1 with fail
 obtain⟨w0,e0⟩:=je (w.alloc (.cells jC 67));obtain⟨R,hR⟩:=je (w.heap.size);have HC:=jh (show KA .u8 w0 R 0 32 (fun _=>0) by rw[e0];exact KA.zero w 32 _ rfl _ _ hR);have HF:=jh (show Y0 w0 R 32 by rw[e0,hR];exact Y0.new _ _ _ _);have hs0:w0.heap.size=R+1:=by rw[e0,hR];simp
 have B:=jh (show Below w.heap.size w w0 by rw[e0];exact ja);have HS:=jh (show ZT w0 1 (.slice a n c) n (jo .u8 l) from qW HS.out B.out);have hwR:w.heap.size<=R:=by omega
 have U2:R<w0.heap.size:=by omega
 rw[<-e0,<-hR];clear e0 hR;have HE:=jh (XQ w0 (R+1))
 go_wp2_with (first
  |(at_builtin;refine jX rfl (.const (.slice none 0 0)) (.tmp 11) 138 rfl (R+1) 5 i0 (.int .u8 0) 1 1 underlying138 HI.out hz0 hz1 hz2 rfl (.slice none 0 0) (0) ([]) rfl (HE.out) (.slice a n c) (n) (jo .u8 l) rfl (HS.out) (by unfold maxLen;omega) (by omega) (by first|omega|(simp;omega)) ?_;intro v9 w1 ho hg hl;obtain⟨a9,c9,rfl⟩:=ho.sl;rw[Nat.zero_add,List.nil_append] at ho;have YA:=jh ho;have GHO1:=jh hg;have zHO1:=hg.size;clear ho hg hl)
  |(at_builtin;refine jX rfl (.tmp 12) (.tmp 13) 138 rfl (R+1) 5 i0 (.int .u8 0) 1 1 underlying138 HI.out hz0 hz1 hz2 rfl (.slice a9 n c9) (n) (jo .u8 l) rfl (O1.later YA.out (ja)) (.slice (some ⟨w1.heap.size,0,none⟩) 1 1) (1) ([.int .u8 128]) rfl (NG _ _ _) (by unfold maxLen;omega) (by omega) (by first|omega|(simp;omega)) ?_;intro v9 w2 ho hg hl;obtain⟨a9,c9,rfl⟩:=ho.sl;have D9:=jh ho;have GHO2:=jh hg;have zHO2:=hg.size;clear ho hg hl))
 have SF:=jh (show Sf w R w0 from⟨HC.out,HF.out,B.out,U2,hwR⟩);have SF:=jh (SF.out.grown GHO1.out (fun k hk=>by simp[Value.ownBlock] at hk));have SF:=jh (SF.out.app YA.out GHO2.out);clear HC HF B U2 hs0 YA GHO1 GHO2 zHO1 zHO2 HE;have HO:=jh (show O1 w2 (R+1) 5 1 (.slice a9 (n+1) c9) (n+1) (jo .u8 (l++128::List.replicate 0 0)) by rw[qp];exact D9.out);clear D9
 go_loopw [3] (fun v wr=>∃z:Nat,z<=Z/\O1 wr (R+1) 5 1 v (n+1+z) (jo .u8 (l++128::List.replicate z 0))/\Hid (Sf w R wr)) (fun v _=>match v with|.slice _ k _=>n+1+Z-k|_=>0)
 case atStart=>exact⟨0,Nat.zero_le _,HO.out,SF⟩
 case round=>
  clear HO SF;obtain⟨z,hz,hown,SF⟩:=hrel;obtain⟨a8,c8,rfl⟩:=hown.sl;obtain⟨m,hm⟩:=je (n+1+z);have HO:=jh hown;have hzz:=HZ.out z hz;rw[<-hm] at HO hzz⊢;have HM:=jh hm;have hmb:m<=n+1+63:=by omega
  clear hown hm;obtain⟨r,hr⟩:=je (m%64);rw[<-hr] at hzz;have r0:(m:Int)%64=(r:Int):=by omega
  have r1:(m:Int).tmod 64=(r:Int):=by rw[Int.tmod_eq_emod_of_nonneg (by omega)];exact r0
  clear hr;have hR9:=SF.out.lt
  by_cases hq:z=Z
  ·have hr56:r=56:=hzz.2 hq;have hr56I:(r:Int)=56:=by omega
   have HO:=jh (show O1 wr (R+1) 5 1 (.slice a8 m c8) m (jo .u8 (l++128::List.replicate Z 0)) by rw[<-hq];exact HO.out);have HM:=jh (show m=n+1+Z by rw[<-hq];exact HM.out);obtain⟨wo,rfl⟩:∃wo:World,wo=wr:=⟨_,rfl⟩;clear hzz hr56 hz hq;obtain⟨L1,hL1⟩:=je (l++128::List.replicate Z 0);rw[<-hL1] at HO;have SI:=jh hL1;obtain⟨X,hX⟩:=je (8*n);have HL:=jh (show l++Jp l.length=L1++be 8 X by rw[HL.out,hL1,hX];simp);have hn64:IntKind.u64.wrap (n:Int)=(n:Int):=by rw[IntKind.wrap_u64];omega
   have hX64:IntKind.u64.wrap ((8:Int)*(n:Int))=(X:Int):=by rw[IntKind.wrap_u64];omega
   have hX0:(8:Int)*(n:Int)=(X:Int):=by omega
   have hXb:X<18446744073709551616:=by omega
   clear hL1 hX
   go_wp2_with fail
   clear r0 r1 hr56I hn64 hX64 hX0
   go_loopw [3,5] (fun v iv wr=>∃i:Nat,i<=8/\iv=.int .i64 i/\O1 wr (R+1) 5 1 v (m+i) (jo .u8 (L1++(be 8 X).take i))/\Hid (Sf w R wr)) (fun _ i _=>8-(intOf i).toNat)
   case atStart=>exact⟨0,Nat.zero_le _,rfl,by simpa using HO.out,SF⟩
   case round=>
    clear HO SF;obtain⟨i,hi,rfl,hown,SF⟩:=hrel;obtain⟨a7,c7,rfl⟩:=hown.sl;obtain⟨p,hp⟩:=je (m+i);have HO:=jh hown;rw[<-hp] at HO⊢;have HP:=jh hp;have hpb:p<=n+1+63+8:=by omega
    have hR8:=SF.out.lt;clear hown hp
    by_cases hlt:i<8
    ·obtain⟨wp,rfl⟩:∃wp:World,wp=wr:=⟨_,rfl⟩;obtain⟨m8,hm8⟩:=je (8*i);obtain⟨m9,vM⟩:=je (56-m8);have jj0:(8:Int)*(i:Int)=(m8:Int):=by omega
     have jj1:(56:Int)-(m8:Int)=(m9:Int):=by omega
     have v0:=Jm (n:=m8) (by omega);have v1:=Jm (n:=m9) (by omega);obtain⟨y,hy⟩:=je (X/256^(7-i)%256);have d:=nN X (7-i) m9 (by omega);rw[<-hy] at d;have HT:=jh (QE (k:=8) (x:=X) (j:=i) hlt);rw[<-hy] at HT;have O6:(i:Int)<8:=by omega
     have h9I:(m9:Int)<=56:=by omega
     clear hm8 vM hy
     go_wp2_with (at_builtin;refine jX rfl (.tmp 30) (.tmp 37) 138 rfl (R+1) 5 i0 (.int .u8 0) 1 1 underlying138 HI.out hz0 hz1 hz2 rfl (.slice a7 p c7) (p) (jo .u8 (L1++(be 8 X).take i)) rfl (O1.later HO.out (ja)) (.slice (some ⟨wp.heap.size,0,none⟩) 1 1) (1) ([.int .u8 (y:Int)]) rfl (NG _ _ _) (by unfold maxLen;omega) (by omega) (by first|omega|(simp;omega)) ?_;intro v9 w3 ho hg hl;obtain⟨a9,c9,rfl⟩:=ho.sl;have UJ:=jh ho;have GHO3:=jh hg;have zHO3:=hg.size;clear ho hg hl)
     go_roundw
     case rel=>
      exact⟨i+1,by omega,by go_num,by
       rw[HT.out,<-List.append_assoc,qp,show m+(i+1)=p+1 by rw[HP.out];omega]
       exact UJ.out,jh (SF.out.app HO.out GHO3.out)⟩
     case measure=>(simp[intOf]<;>omega)
    ·have hi8:i=8:=by omega
     obtain⟨L,hL⟩:=je (l++Jp l.length);have hLT:=HLN.out;have HLB9:=jh yC.out;have HSH9:=jh HSH.out;rw[<-hL] at hLT HLB9 HSH9;have hpT:p=L.length:=by rw[hLT,HP.out,hi8,HM.out];omega
     have ha:=HO.out;rw[hi8,List.take_of_length_le (by rw[jI];exact Nat.le_refl _),<-HL.out,<-hL] at ha;have hK:F7 .u8 wr (.slice a7 p c7) L:=by rw[hpT] at ha⊢;exact Own.at_ ha
     have hLB:qk L:=by rw[hL];exact bytes_end HBY.out
     obtain⟨ga,oa,ho0⟩:∃ga oa,a7=some ⟨ga,oa,none⟩:=by obtain⟨ao,cp,e,_,_,_,h4⟩:=hK;obtain⟨g9,o9,e9,_⟩:=h4 (by omega);injection e with e _ _;exact⟨g9,o9,e.trans e9⟩
     subst ho0;have hgl:=(O1.lt ha ga rfl);obtain⟨N,hN⟩:=je (L.length/64);rw[<-hN] at HLB9 HSH9;have HTN:=jh (show p=64*N by rw[hpT];exact HLB9.out);have HK:=jh hK;have HLBy:=jh hLB;have HPL:=jh hpT;have hgl1:=hgl.1;have hgl2:=hgl.2;have hpc:p<=c7:=by obtain⟨ao,cp,e,h1,_⟩:=hK;injection e with _ _ e3;rw[hpT,e3];exact h1
     have hNb:N<=4000:=by have h9:=HTN.out;omega
     obtain⟨wp,rfl⟩:∃wp:World,wp=wr:=⟨_,rfl⟩;have hI8:¬(i:Int)<8:=by omega
     clear hlt hi hi8 hL hLT hpT ha hK hLB hN hgl HO yC HSH HL SI
     go_upto_region 10 with fail
     obtain⟨w3,e3⟩:=je (wp.alloc (.cells #[.int .u32 1779033703,.int .u32 3144134277,.int .u32 1013904242,.int .u32 2773480762,.int .u32 1359893119,.int .u32 2600822924,.int .u32 528734635,.int .u32 1541459225] 305));obtain⟨HB,hHB⟩:=je (wp.heap.size);have hb:=jc e3;have h8:=jh (show KA .u32 w3 HB 0 8 (zK EC.list) by rw[e3];exact KA.new (k:=.u32) wp EC.list _ rfl _ _ hHB);have f8:=jh (show Y0 w3 HB 8 by rw[e3,hHB];exact Y0.new _ _ _ _);have hs3:w3.heap.size=HB+1:=by rw[e3,hHB];simp
     rw[<-e3,<-hHB];have hRH:R<HB:=by omega
     have hgH:ga≠HB:=by omega
     have SF:=jh (SF.out.later hb);have HK:=jh (HK.out.later hb);clear e3 hHB hb
     go_wp2_with fail
     refine(DZ w3).mono ?_;rintro _ w4 ⟨gk,rfl,ht,hgk,hb⟩;have SO:=jh (show So w R HB ga oa c7 gk p L (GK L 0) w4 from⟨SF.out.later hb,h8.out.later hb,f8.out.later hb (by omega),HK.out.later hb,ht,hgH,by omega,hRH,jv (by omega) hb.size⟩);clear h8 f8 SF HK ht hgk hb hs3 hRH hgH
     go_wp2_with fail
     go_loopw [8] (fun iv wr=>∃k m:Nat,k<=N/\m=64*k/\iv=.int .i64 m/\Hid (So w R HB ga oa c7 gk p L (GK L k) wr)) (fun iv _=>64*N-(intOf iv).toNat)
     case atStart=>exact⟨0,0,Nat.zero_le _,rfl,rfl,SO⟩
     case round=>
      clear SO;obtain⟨k,q,hk,hqk,rfl,SO⟩:=hrel;have HQK:=jh hqk
      by_cases hlt:k<N
      ·have hq64:q+64<=p:=by have h9:=HTN.out;omega
       obtain⟨q2,hq2⟩:=je (q+64);have hSL:=slice_blk (o:=oa) (g:=ga) hq64 hpc;rw[<-hq2] at hSL;have j0:(q:Int)+64=(q2:Int):=by omega
       have O6:(q:Int)<(p:Int):=by omega
       have hqb:q2<=300000:=by omega
       have v0:=Jm (n:=q2) (by omega);obtain⟨u,hu⟩:=je (GK L k);have hok:=KQ L k;have HNX:=jh (show GK L (k+1)=takeB (GK L k) ((L.drop q).take 64) by rw[HQK.out];rfl);rw[<-hu] at SO hok HNX;obtain⟨z,hzz⟩:=je (takeB u ((L.drop q).take 64));rw[<-hzz] at HNX;have CB:=jh (fun(W:World) (h:So w R HB ga oa c7 gk p L u W)=>by have h9:=IZ hok (fun x hx=>HLBy.out x (List.mem_of_mem_drop (List.mem_of_mem_take hx))) (by rw[List.length_take,List.length_drop];have h9:=HPL.out;omega) W (cut_blk h.all (m:=q) (by have h9:=HPL.out;omega)) h.tab;rewrite[<-hzz] at h9;unfold S8.val at h9;exact h9);have hrd:=Jj SO.out.h;obtain⟨x0,x1,x2,x3,x4,x5,x6,x7⟩:=hrd;clear hu hok hzz hqk hlt hq2
       go_upto_region 14 with fail
       refine zM 8 (fun F O9 hcl hbl=>?_);have x0:=fun X9:Wd F=>jj x0 (hbl X9.world X9.fact)
       have x1:=fun X9:Wd F=>jj x1 (hbl X9.world X9.fact)
       have x2:=fun X9:Wd F=>jj x2 (hbl X9.world X9.fact)
       have x3:=fun X9:Wd F=>jj x3 (hbl X9.world X9.fact)
       have x4:=fun X9:Wd F=>jj x4 (hbl X9.world X9.fact)
       have x5:=fun X9:Wd F=>jj x5 (hbl X9.world X9.fact)
       have x6:=fun X9:Wd F=>jj x6 (hbl X9.world X9.fact)
       have x7:=fun X9:Wd F=>jj x7 (hbl X9.world X9.fact)
       have CBX:=fun X9:Wd F=>CB.out X9.world (SO.out.later (hbl X9.world X9.fact))
       have I5:=jh hcl;clear hcl hbl;refine zL 8 ?_;simp only[zo,zn,zm,zl,Nat.reduceAdd]
       repeat (go_big_quiet_step ((go_at_call 249;with_reducible exact jp I5.out (CBX _))))
       refine wpQuiet_nil ?_;refine jS ?_;intro bs w5 hb _ _;clear x0 x1 x2 x3 x4 x5 x6 x7 I5 CBX;simp only[over];have SO:=jh (SO.out.later hb);clear hb;have hrd:=Jj SO.out.h;obtain⟨x0,x1,x2,x3,x4,x5,x6,x7⟩:=hrd;have f0:=SO.out.fh 0 (by decide);have f1:=SO.out.fh 1 (by decide);have f2:=SO.out.fh 2 (by decide);have f3:=SO.out.fh 3 (by decide);have f4:=SO.out.fh 4 (by decide);have f5:=SO.out.fh 5 (by decide);have f6:=SO.out.fh 6 (by decide);have f7:=SO.out.fh 7 (by decide)
       go_wp2_with fail
       go_roundw
       case rel=>exact⟨k+1,q2,by have h9:=HTN.out;have h8:=HQK.out;omega,by have h8:=HQK.out;omega,by go_num,jh (by rw[HNX.out];exact SO.out.put z)⟩
       case measure=>(simp[intOf];have h9:=HTN.out;have h8:=HQK.out;omega)
      ·have hkN:k=N:=by omega
       have hqI:¬(q:Int)<(p:Int):=by have h9:=HTN.out;omega
       obtain⟨u,hu⟩:=je (GK L k);rw[<-hu] at SO;have HD:=jh (show u.list.flatMap (be 4)=zr l by rw[HSH9.out,hu,hkN]);have hok:=KQ L k;rw[<-hu] at hok;obtain⟨D,hD⟩:=je (zr l);rw[<-hD] at HD;have HDL:=jh (show D.length=32 by rw[hD];exact jY l);have HD9:=jh hD;have HAT:=jh (fun i (hi:i<32)=>show zK D i=zK u.list (i/4)/256^(3-i%4)%256 by rw[<-HD.out];exact at0_be4 u i hi);have dI:=jh (fun i=>s8_lt hok i);obtain⟨ws,rfl⟩:∃ws:World,ws=wr:=⟨_,rfl⟩;clear hk hqk hlt hkN hu hok hD HD HSH9 HLB9
       go_upto_region 16 with fail
       obtain⟨w6,e6⟩:=je (ws.alloc (.cells jC 67));obtain⟨OB,hOB⟩:=je (ws.heap.size);have hb:=jc e6;have hc6:=jh (show KA .u8 w6 OB 0 32 (fun j=>if j<0 then zK D j else 0) by rw[e6];exact(KA.zero ws 32 _ rfl _ _ hOB).congr (fun j _=>by rw[if_neg (Nat.not_lt_zero j)]));have f6:=jh (show Y0 w6 OB 32 by rw[e6,hOB];exact Y0.new _ _ _ _);have hs6:w6.heap.size=OB+1:=by rw[e6,hOB];simp
       have hn1:HB<OB:=by rw[hOB];exact SO.out.lt
       have hn2:R<OB:=by rw[hOB];exact SO.out.sf.lt
       have hh6:=jh (SO.out.h.later hb);have SF:=jh (SO.out.sf.later hb);have hO6:OB<w6.heap.size:=by omega
       rw[<-e6,<-hOB];clear e6 hOB hb hs6 SO
       go_wp2_with fail
       go_loopw [10] (fun iv wr=>∃i:Nat,i<=32/\iv=.int .i64 i/\Hid (KA .u8 wr OB 0 32 (fun j=>if j<i then zK D j else 0))/\Hid (Y0 wr OB 32)/\Hid (KA .u32 wr HB 0 8 (zK u.list))/\Hid (Sf w R wr)) (fun iv _=>32-(intOf iv).toNat)
       case atStart=>exact⟨0,Nat.zero_le _,rfl,hc6,f6,hh6,SF⟩
       case round=>
        clear hc6 f6 hh6 SF;obtain⟨i,hi,rfl,hc6,f6,hh6,SF⟩:=hrel
        by_cases hlt:i<32
        ·obtain⟨q4,hq4⟩:=je (i/4);obtain⟨r4,hr4⟩:=je (i%4);obtain⟨m8,hm8⟩:=je (8*r4);obtain⟨m9,vM⟩:=je (24-m8);have j0:(i:Int)/4=(q4:Int):=by omega
         have j1:(i:Int).tdiv 4=(q4:Int):=by rw[Int.tdiv_eq_ediv_of_nonneg (by omega)];exact j0
         have j2:(i:Int)%4=(r4:Int):=by omega
         have j3:(i:Int).tmod 4=(r4:Int):=by rw[Int.tmod_eq_emod_of_nonneg (by omega)];exact j2
         have j4:(8:Int)*(r4:Int)=(m8:Int):=by omega
         have j5:(24:Int)-(m8:Int)=(m9:Int):=by omega
         have v0:=Jm (n:=m8) (by omega);have v1:=Jm (n:=m9) (by omega);have v2:=Jm (n:=q4) (by omega);have v3:=Jm (n:=r4) (by omega);have h9I:(m9:Int)<=24:=by omega
         have rx:=jy hh6.out (j:=q4) (by omega);obtain⟨x,hx⟩:=je (zK u.list q4);obtain⟨y,hy⟩:=je (zK D i);have d:(x:Int)/2^m9%256=(y:Int):=by rw[hy,HAT.out i hlt,<-hq4,<-hx,<-hr4];exact nN x (3-r4) m9 (by omega)
         rw[<-hx] at rx;have HY:=jh hy;have G7:=jh hlt;have O6:(i:Int)<32:=by omega
         have q0:=jy hc6.out (j:=i) hlt;have f0:=f6.out i hlt;have hq8:(q4:Int)<8:=by omega
         clear hq4 hr4 hm8 vM hx hy hlt
         go_wp2_with fail
         go_roundw
         case rel=>exact⟨i+1,by have:=G7.out;omega,by go_num,jh ((hc6.out.set i y).congr (fun j _=>out_next y HY.out j)),jh (f6.out.set _ _),jh (hh6.out.other _ _ (by omega)),jh (SF.out.set hn2 _ _)⟩
         case measure=>(simp[intOf];have:=G7.out;omega)
        ·have hi32:i=32:=by omega
         have hcD:KA .u8 wr OB 0 D.length (zK D):=by rw[HDL.out];exact hc6.out.congr (fun j hj=>by rw[if_pos (by omega)])
         have RL:=jh (cat_range hcD);have TH:=jh (iQ SF.out.c SF.out.f);obtain⟨cs,hcs⟩:=je (jo .u8 D);have HC:=jh hcs;have I5:Hid (cs.length=32):=jh (by rw[hcs,js,HDL.out]);have HCO:Hid (∀v∈cs,v.oneCell'=true):=jh (by rw[hcs];exact Jx _ _);rw[<-hcs] at RL;clear hcD hcs hc6 f6 hh6 hi hlt;have hi32I:¬(i:Int)<32:=by omega
         clear hi32
         go_wp2_with (first
          |(refine wpList_load_mid rfl 67 _ rfl OB 0 rfl cs _ RL.out underlying67 rfl (by rw[I5.out];kernel_rfl) ?_)
          |(refine wpList_store_mid rfl 67 _ _ rfl R 0 cs.toArray rfl rfl (by have:=TH.out;simpa[I5.out] using this) (by rw[List.size_toArray,I5.out];kernel_rfl) (all_oneCell_toArray HCO.out) ?_))
         refine bodyPost_ret (v:=.agg cs.toArray) (FD _ _ R _ results202 rfl (run_loadVar_mid _ _ _ _ cs _ (World.rangeAt_setCells_same _ _ _ _ (by have:=TH.out;simpa[I5.out] using this)) underlying67 rfl (by rw[I5.out];kernel_rfl))) rfl ⟨by rw[HC.out,HD9.out],?_⟩;exact Jz _ _ _ SF.out.below SF.out.le
  ·have hr56I:¬(r:Int)=56:=by have:=mt hzz.1 hq;omega
   have hr56J:((r:Int)==56)=false:=by simp;exact hr56I
   have hlt:z<Z:=by omega
   obtain⟨wo,rfl⟩:∃wo:World,wo=wr:=⟨_,rfl⟩;clear hzz hq
   go_wp2_with (at_builtin;refine jX rfl (.tmp 19) (.tmp 20) 138 rfl (R+1) 5 i0 (.int .u8 0) 1 1 underlying138 HI.out hz0 hz1 hz2 rfl (.slice a8 m c8) (m) (jo .u8 (l++128::List.replicate z 0)) rfl (O1.later HO.out (ja)) (.slice (some ⟨wo.heap.size,0,none⟩) 1 1) (1) ([.int .u8 0]) rfl (NG _ _ _) (by unfold maxLen;omega) (by omega) (by first|omega|(simp;omega)) ?_;intro v9 w3 ho hg hl;obtain⟨a9,c9,rfl⟩:=ho.sl;have UJ:=jh ho;have GHO3:=jh hg;have zHO3:=hg.size;clear ho hg hl)
   go_roundw
   case rel=>
    exact⟨z+1,by omega,by
     rw[List.replicate_succ',<-List.cons_append,<-List.append_assoc,qp,show n+1+(z+1)=m+1 by rw[HM.out];omega]
     exact UJ.out,jh (SF.out.app HO.out GHO3.out)⟩
   case measure=>(have h9:=HM.out;simp;omega)
end Go.Proofs.YtpkalgofejjggaaGreatDoor
