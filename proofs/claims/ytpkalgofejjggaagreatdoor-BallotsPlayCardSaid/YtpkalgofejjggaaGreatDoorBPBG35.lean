/- Ballots' laws -/
import Derived.Test.YtpkalgofejjggaaGreatDoorBPBG32
import Derived.Test.YtpkalgofejjggaaGreatDoorBPBG30
import Derived.Test.YtpkalgofejjggaaGreatDoorBPBG29
import Derived.Test.YtpkalgofejjggaaGreatDoorBPBG33
import Derived.Test.YtpkalgofejjggaaGreatDoorBPBG34
set_option linter.unusedSimpArgs false
set_option linter.unusedVariables false
set_option maxHeartbeats 4000000
set_option maxRecDepth 20000
namespace Go.Proofs.YtpkalgofejjggaaGreatDoor
open Go.ChangeShapes Go.WideShapes Go.ChangeAt Go.RowKit Go.Proofs.Tryz
section
variable {P:Program}{w:World}
theorem qO{b:Nat}{T:Array Value}{t ty:TypeId}{d:TypeDesc}(hr:w.heap[b]?=some (.cells T t (0,0))) (hu:P.underlying ty=some d) (hd:d.isRow=true) (hi:(P.info? ty).map (·.size)=some T.size):
  (Instr.loadAt ty (.pointer (some ⟨b,0,none⟩))).run P w=.ok (.agg T) w:=by
 have h9:=run_loadAt_mid (P:=P) w b 0 ty T.toList d (fun j u hj=>by
  rw[Nat.zero_add,cell_of_row _ _ _ _ _ _ hr]
  simpa using hj) hu hd (by rw[hi];simp)
 simpa using h9
theorem qL{b:Nat}{L:List Value}{t:TypeId}(h:w.heap[b]?=some (.cells L.toArray t (0,0))):w.rangeAt b 0 L:=fun j u hj=>by
 rw[Nat.zero_add,cell_of_row _ _ _ _ _ _ h]
 simpa using hj
theorem Qg{l:List Oper}{o:Oper}{a:Act}{K:Act->World->Prop}{Q:Exit->Act->World->Prop}{X:Prop}{v:Value}(hw:Region.wanted o (yielded l.toArray a.tmps)=true)(h:(execOp a.eval o).run P w=.ok (.value v) w)(k:K (a.put o.dst v) w):
  if Region.wanted o (yielded l.toArray a.tmps)=true then Oper.wp P o a w K Q else X:=by
 rw[if_pos hw];unfold Oper.wp;rw[h];exact k
theorem zX{w':World}{l:List Oper}{o:Oper}{a:Act}{K:Act->World->Prop}{Q:Exit->Act->World->Prop}{X:Prop}{v:Value}(hw:Region.wanted o (yielded l.toArray a.tmps)=true)(h:(execOp a.eval o).run P w=.ok (.value v) w')(k:K (a.put o.dst v) w'):
  if Region.wanted o (yielded l.toArray a.tmps)=true then Oper.wp P o a w K Q else X:=by
 rw[if_pos hw];unfold Oper.wp;rw[h];exact k
end
abbrev hsL(s:Bal.H32):List Nat:=s.l
theorem qt(s:Bal.H32):(hsL s).length=32:=s.hl
theorem hsL_inj{s t:Bal.H32}(h:hsL s=hsL t):s=t:=Bal.H32.eq h
def qS(ep:Nat)(C S:Bal.Bv->Nat)(x:Bal.Bv):List Value:=jM x.k ep x.v x.n (hsL x.s) (C x) (S x)
theorem ql(ep:Nat)(C S:Bal.Bv->Nat)(x:Bal.Bv):(qS ep C S x).length=44:=qz (qt _)
theorem LG(ep:Nat)(C S:Bal.Bv->Nat)(x:Bal.Bv):∀u∈qS ep C S x,u.oneCell'=true:=yE _ _ _ _ _ _ _
def xH(E:List Bal.Bv)(n:Nat):List Value:=(List.range n).map fun i=>.int .i64 (Bal.farOf E (i+1))
theorem Zi(E:List Bal.Bv)(n:Nat):(xH E n).length=n:=by simp[xH]
theorem XM{E:List Bal.Bv}{n i:Nat}(h:i<n):(xH E n)[i]?=some (.int .i64 (Bal.farOf E (i+1))):=by simp[xH,h]
def Zs(f:Value->Option Value)(g:Nat):Prop:=∃k v n,((f (qE k v n)).getD (.slice none 0 0)).ownBlock=some g
structure J7(w:World)(bx gp gq gg gh n cap nb no mb fb fo fc ep base:Nat)(fa se:Int)(ks:List (Nat×Nat))(vv:Bal.Bv->List Value)(f:Value->Option Value)(E:List Bal.Bv):Prop where
 set:TA w bx gp gq gg gh fa se (.slice (some ⟨nb,no,none⟩) n cap)
 epo:w.cell? ⟨bx,19,none⟩=some (.int .u64 ep)
 mp:w.cell? ⟨bx,20,none⟩=some (.map (some mb))
 fr:w.cell? ⟨bx,21,none⟩=some (.slice (some ⟨fb,fo,none⟩) n fc)
 keys:Y4 w nb no ks
 map:LC w prog 99 mb f
 rows:UA w base 71 44 vv f E
 far:O1 w 0 2 1 (.slice (some ⟨fb,fo,none⟩) n fc) n (xH E n)
 lt:bx<base/\nb<base/\mb<base/\fb<base
 ne:mb≠bx/\mb≠nb/\fb≠bx/\fb≠nb/\fb≠mb
 bs:base<=w.heap.size
structure Turn(w w':World)(mb fb:Nat)(f:Value->Option Value):Prop where
 os:w'.os=w.os
 tape:w'.tape=w.tape
 output:w'.output=w.output
 size:w.heap.size<=w'.heap.size
 block:∀i,i<w.heap.size->i≠mb->i≠fb->¬Zs f i->w'.heap[i]?=w.heap[i]?
theorem TA.block{w w':World}{b gp gq gg gh:Nat}{fa se:Int}{v:Value}(h:TA w b gp gq gg gh fa se v)(hb:w'.heap[b]?=w.heap[b]?):TA w' b gp gq gg gh fa se v:=
 have c:∀{o:Nat} {u:Value},w.cell? ⟨b,o,none⟩=some u->w'.cell? ⟨b,o,none⟩=some u:=fun hu=>(World.cell?_of_block (w:=w) (a:=⟨b,_,none⟩) hb).trans hu
 ⟨⟨fun j hj=>c (h.grp.1 j hj),fun j hj=>c (h.grp.2.1 j hj),fun j hj=>c (h.grp.2.2.1 j hj),fun j hj=>c (h.grp.2.2.2 j hj)⟩,c h.fa,c h.se,c h.nd,fun j hj=>(World.frozen?_of_block (w:=w) (a:=⟨b,j,none⟩) hb).trans (h.free j hj)⟩
theorem Y4.block{w w':World}{b o:Nat}{ks:List (Nat×Nat)}(h:Y4 w b o ks)(hb:w'.heap[b]?=w.heap[b]?):Y4 w' b o ks:=fun i k hk=>
 ⟨fun j hj=>(World.cell?_of_block (w:=w) (a:=⟨b,_,none⟩) hb).trans ((h i k hk).1 j hj),fun j hj=>(World.cell?_of_block (w:=w) (a:=⟨b,_,none⟩) hb).trans ((h i k hk).2 j hj)⟩
theorem zQ{w w':World}{b o:Nat}{v:Value}(h:w.cell? ⟨b,o,none⟩=some v)(hb:w'.heap[b]?=w.heap[b]?):w'.cell? ⟨b,o,none⟩=some v:=(World.cell?_of_block (w:=w) (a:=⟨b,o,none⟩) hb).trans h
theorem UA.block{w w':World}{base W:Nat}{t:TypeId}{vv:Bal.Bv->List Value}{f:Value->Option Value}{E:List Bal.Bv}(h:UA w base t W vv f E)(hb:∀g,Zs f g->w'.heap[g]?=w.heap[g]?):UA w' base t W vv f E:=
 ⟨fun k v n=>O1.block (h.row k v n) fun g hg=>hb g ⟨k,v,n,hg⟩,h.apart⟩
theorem UA.lt{w:World}{base W:Nat}{t:TypeId}{vv:Bal.Bv->List Value}{f:Value->Option Value}{E:List Bal.Bv}(h:UA w base t W vv f E){g:Nat}(hg:Zs f g):base<=g/\g<w.heap.size:=by
 obtain⟨k,v,n,hg⟩:=hg;exact qr (h.row k v n) hg
section
variable {w w':World}{bx gp gq gg gh n cap nb no mb fb fo fc ep base:Nat}{fa se:Int}{ks:List (Nat×Nat)}{vv:Bal.Bv->List Value}{f:Value->Option Value}{E:List Bal.Bv}
theorem J7.blocks(h:J7 w bx gp gq gg gh n cap nb no mb fb fo fc ep base fa se ks vv f E)(hbx:w'.heap[bx]?=w.heap[bx]?) (hnb:w'.heap[nb]?=w.heap[nb]?) (hmb:w'.heap[mb]?=w.heap[mb]?) (hfb:w'.heap[fb]?=w.heap[fb]?) (hr:∀g,Zs f g->w'.heap[g]?=w.heap[g]?) (hs:base<=w'.heap.size):
  J7 w' bx gp gq gg gh n cap nb no mb fb fo fc ep base fa se ks vv f E:=
 ⟨h.set.block hbx,zQ h.epo hbx,zQ h.mp hbx,zQ h.fr hbx,h.keys.block hnb,h.map.block hmb,h.rows.block hr,O1.block h.far fun g hg=>by cases hg;exact hfb,h.lt,h.ne,hs⟩
theorem J7.later(h:J7 w bx gp gq gg gh n cap nb no mb fb fo fc ep base fa se ks vv f E)(hb:Below w.heap.size w w'):J7 w' bx gp gq gg gh n cap nb no mb fb fo fc ep base fa se ks vv f E:=
 h.blocks (hb.block _ (jv h.lt.1 h.bs)) (hb.block _ (jv h.lt.2.1 h.bs)) (hb.block _ (jv h.lt.2.2.1 h.bs)) (hb.block _ (jv h.lt.2.2.2 h.bs)) (fun _ hg=>hb.block _ (h.rows.lt hg).2) (Nat.le_trans h.bs hb.size)
theorem J7.other{mb2 fb2:Nat}{f2:Value->Option Value}(h:J7 w bx gp gq gg gh n cap nb no mb fb fo fc ep base fa se ks vv f E)(ht:Turn w w' mb2 fb2 f2)(hm:mb2<base/\mb2≠bx/\mb2≠nb/\mb2≠mb/\mb2≠fb)(hf:fb2<base/\fb2≠bx/\fb2≠nb/\fb2≠mb/\fb2≠fb)
  (hr:∀g,Zs f2 g->base<=g) (hc:∀g,Zs f g->¬Zs f2 g):J7 w' bx gp gq gg gh n cap nb no mb fb fo fc ep base fa se ks vv f E:=by
 have lo:∀b,b<base->b≠mb2->b≠fb2->w'.heap[b]?=w.heap[b]?:=fun b hb h1 h2=>ht.block b (jv hb h.bs) h1 h2 fun h3=>absurd (hr b h3) (by omega)
 refine h.blocks (lo _ h.lt.1 (Ne.symm hm.2.1) (Ne.symm hf.2.1)) (lo _ h.lt.2.1 (Ne.symm hm.2.2.1) (Ne.symm hf.2.2.1)) (lo _ h.lt.2.2.1 (Ne.symm hm.2.2.2.1) (Ne.symm hf.2.2.2.1)) (lo _ h.lt.2.2.2 (Ne.symm hm.2.2.2.2) (Ne.symm hf.2.2.2.2)) (fun g hg=>?_) (Nat.le_trans h.bs ht.size);have h1:=h.rows.lt hg;exact ht.block g h1.2 (by omega) (by omega) (hc g hg)
theorem Turn.below(h:Turn w w' mb fb f){B:Nat}(hm:B<=mb)(hf:B<=fb)(hr:∀g,Zs f g->B<=g)(hB:B<=w.heap.size):Below B w w':=
 ⟨h.os,h.tape,h.output,h.size,fun i hi=>h.block i (jv hi hB) (by omega) (by omega) fun h3=>absurd (hr i h3) (by omega)⟩
theorem J7.rebase(h:J7 w bx gp gq gg gh n cap nb no mb fb fo fc ep base fa se ks vv (fun _=>none) []):J7 w bx gp gq gg gh n cap nb no mb fb fo fc ep w.heap.size fa se ks vv (fun _=>none) []:=
 ⟨h.set,h.epo,h.mp,h.fr,h.keys,h.map,BD _ _ _ _ _,h.far,⟨jv h.lt.1 h.bs,jv h.lt.2.1 h.bs,jv h.lt.2.2.1 h.bs,jv h.lt.2.2.2 h.bs⟩,h.ne,Nat.le_refl _⟩
end
theorem wP(g:Nat):¬Zs (fun _=>none) g:=fun⟨_,_,_,h⟩=>by cases h
theorem dM{w:World}{b o:Nat}{v:Value}(h:w.cell? ⟨b,o,none⟩=some v):(Instr.loadAt 91 (.pointer (some ⟨b,o,none⟩))).run prog w=.ok v w:=by
 simp[go_sem,h]
theorem loadFs{w:World}{b o:Nat}{v:Value}(h:w.cell? ⟨b,o,none⟩=some v):(Instr.loadAt 92 (.pointer (some ⟨b,o,none⟩))).run prog w=.ok v w:=by
 simp[go_sem,h]
theorem Jl{w:World}{b o:Nat}{v:Value}(h:w.cell? ⟨b,o,none⟩=some v):(Instr.loadAt 22 (.pointer (some ⟨b,o,none⟩))).run prog w=.ok v w:=by
 simp[go_sem,h]
theorem loadI64{w:World}{b o:Nat}{v:Value}(h:w.cell? ⟨b,o,none⟩=some v):(Instr.loadAt 2 (.pointer (some ⟨b,o,none⟩))).run prog w=.ok v w:=by
 simp[go_sem,h]
theorem Ju{w:World}{b o:Nat}{v:Value}(h:w.cell? ⟨b,o,none⟩=some v):(Instr.loadAt 64 (.pointer (some ⟨b,o,none⟩))).run prog w=.ok v w:=by
 simp[go_sem,h]
theorem zU{w:World}{b o:Nat}{v:Value}(h:w.cell? ⟨b,o,none⟩=some v):(Instr.loadAt 65 (.pointer (some ⟨b,o,none⟩))).run prog w=.ok v w:=by
 simp[go_sem,h]
theorem fM{w:World}{b o:Nat}{v:Value}(h:w.cell? ⟨b,o,none⟩=some v):(Instr.loadAt 5 (.pointer (some ⟨b,o,none⟩))).run prog w=.ok v w:=by
 simp[go_sem,h]
theorem XD:prog.eqGuardType prog.depth 67=false:=by kernel_rfl
theorem UR(s:Bal.H32):∀i,i<32->((jo .u8 (hsL s)).toArray)[i]?=some (.int .u8 (((hsL s).getD i 0:Nat):Int)):=fun i hi=>by
 rw[List.getElem?_toArray,qC,Jd (by rw[qt];exact hi)]
 simp[List.getD_eq_getElem?_getD,Jd (show i<(hsL s).length by rw[qt];exact hi)]
theorem all_sets(s t:Bal.H32):((List.range 32).all fun i=>(((hsL s).getD i 0:Nat):Int)==(((hsL t).getD i 0:Nat):Int))=decide (s=t):=by
 by_cases h:s=t
 ·subst h
  simp
 ·rw[decide_eq_false h,Bool.eq_false_iff];intro e;refine h (hsL_inj (List.ext_getElem (by rw[qt,qt]) fun i h1 h2=>?_));have h3:=List.all_eq_true.1 e i (List.mem_range.2 (by rw[qt] at h1;exact h1));simp only[List.getD_eq_getElem?_getD,List.getElem?_eq_getElem h1,List.getElem?_eq_getElem h2,Option.getD_some,beq_iff_eq] at h3;omega
theorem iW(s t:Bal.H32)(w:World):(Op.equalIn 10000 67 (.agg (jo .u8 (hsL s)).toArray) (.agg (jo .u8 (hsL t)).toArray)).run prog w=.ok (decide (s=t)) w:=by
 rw[Je w 9998 67 5 .u8 32 underlying67 underlying5 (fun _=>by kernel_rfl) (fun _=>by kernel_rfl) _ _ (fun i=>(((hsL s).getD i 0:Nat):Int)) (fun i=>(((hsL t).getD i 0:Nat):Int)) (UR s) (UR t),all_sets]
theorem dK(s t:Bal.H32)(w:World):(binOp .eql 67 (.agg (jo .u8 (hsL s)).toArray) (.agg (jo .u8 (hsL t)).toArray)).run prog w=.ok (.bool (decide (s=t))) w:=by
 rw[run_eql_struct,iW]
 rfl
open Go.ChangeShapes Go.WideShapes Go.ChangeAt Go.RowKit
section
variable {P:Program}{w:World}
end
theorem setV_one{gp gq gg gh:Nat}{fa se:Int}{nodes:Value}(hn:nodes.oneCell'=true){T:Array Value}(h:zC gp gq gg gh fa se nodes=.agg T):T.all (·.oneCell')=true:=by
 unfold zC at h;injection h with h
 rw[<-h]
 cases nodes<;>simp_all [Value.oneCell']
theorem KE{gp gq gg gh:Nat}{fa se:Int}{nodes:Value}{T:Array Value}(h:zC gp gq gg gh fa se nodes=.agg T):T.size=19:=by
 unfold zC at h;injection h with h
 rw[<-h]
 rfl
structure StOk(gp gq gg gh n:Nat)(fa se:Int)(ks:List (Nat×Nat)):Prop where
 hx:∀k∈ks,k.1<jk/\k.2<jk
 hq:gq<jk
 hm:gp<jk
 hgg:gg<jk
 hgh:gh<jk
 hn:n=ks.length
 hfa: -9223372036854775808<=fa/\fa<=9223372036854775807
 hse: -9223372036854775808<=se/\se<=9223372036854775807
 hn7:n<=7
 ok:qi gp gq gg gh fa se n ks=true
 may:Jt gp gg
 q1:1<gq
 keys:∀k∈ks,YH gp gq k.1/\k.1≠1
theorem loadGr{w:World}{b gp gq gg gh:Nat}{fa se:Int}{v:Value}(h:TA w b gp gq gg gh fa se v):(Instr.loadAt 26 (.pointer (some ⟨b,0,none⟩))).run prog w=.ok (.agg #[.int .u64 (jg jf gp 0),.int .u64 (jg jf gp 1),.int .u64 (jg jf gp 2),.int .u64 (jg jf gp 3),.int .u64 (jg jf gq 0),.int .u64 (jg jf gq 1),.int .u64 (jg jf gq 2),.int .u64 (jg jf gq 3),.int .u64 (jg jf gg 0),.int .u64 (jg jf gg 1),.int .u64 (jg jf gg 2),.int .u64 (jg jf gg 3),.int .u64 (jg jf gh 0),.int .u64 (jg jf gh 1),.int .u64 (jg jf gh 2),.int .u64 (jg jf gh 3)]) w:=qP h.grp
theorem lG{w:World}{b o:Nat}{v:Value}(h:w.cell? ⟨b,o,none⟩=some v):(Instr.loadAt 5 (.pointer (some ⟨b,o,none⟩))).run prog w=.ok v w:=by
 simp[go_sem,h]
theorem BR{w:World}{b o:Nat}{v:Value}(h:w.cell? ⟨b,o,none⟩=some v):(Instr.loadAt 65 (.pointer (some ⟨b,o,none⟩))).run prog w=.ok v w:=by
 simp[go_sem,h]
theorem loadSg{w:World}{b o c s:Nat}(h:w.rangeAt b o (PG c s)):(Instr.loadAt 69 (.pointer (some ⟨b,o,none⟩))).run prog w=.ok (iY c s) w:=
 run_loadAt_mid (P:=prog) w b o 69 (PG c s) _ h underlying69 rfl GV
def iK(w:World)(b o:Nat)(vv:Bal.Bv->List Value)(l:List Bal.Bv):Prop:=w.rangeAt b o (l.flatMap vv)
theorem eP{vv:Bal.Bv->List Value}(hvv:∀x,(vv x).length=44):∀(l:List Bal.Bv) (i:Nat) (x:Bal.Bv),l[i]?=some x->∀j u,(vv x)[j]?=some u->(l.flatMap vv)[i*44+j]?=some u
 |[],i,x,h,_,_,_=>by simp at h
 |a::l,0,x,h,j,u,hj=>by
  simp at h
  subst h;rw[List.flatMap_cons,List.getElem?_append_left (by have:=(List.getElem?_eq_some_iff.1 hj).1;omega)]
  simpa using hj
 |a::l,i+1,x,h,j,u,hj=>by
  have h9:=eP hvv l i x (by simpa using h) j u hj;rw[List.flatMap_cons,List.getElem?_append_right (by rw[hvv];omega),hvv,show(i+1)*44+j-44=i*44+j by omega];exact h9
theorem iK.at{w:World}{b o i:Nat}{vv:Bal.Bv->List Value}{l:List Bal.Bv}{x:Bal.Bv}(h:iK w b o vv l)(hvv:∀x,(vv x).length=44)(hx:l[i]?=some x):w.rangeAt b (o+i*44) (vv x):=fun j u hj=>by
 have h9:=h (i*44+j) u (eP hvv l i x hx j u hj);rw[show o+i*44+j=o+(i*44+j) by omega];exact h9
theorem Qa{w:World}{B n:Nat}{v:Value}{t:TypeId}{vv:Bal.Bv->List Value}{l:List Bal.Bv}(h:O1 w B t 44 v n (l.flatMap vv))(h0:0<n):∃b o cap,v=.slice (some ⟨b,o,none⟩) n cap/\iK w b o vv l:=by
 rcases id h.2 with⟨_,h9⟩|⟨g,o,cap,cur,rfl,_⟩
 ·omega
 ·exact⟨g,o,cap,rfl,fun j u hj=>by have h9:=h.cells j u hj;rw[Addr.add_lit] at h9;exact h9⟩
theorem NP{w:World}{b o:Nat}{L:List Value}(h:w.rangeAt b o L)(hl:L.length=44):(Instr.loadAt 71 (.pointer (some ⟨b,o,none⟩))).run prog w=.ok (.agg L.toArray) w:=
 run_loadAt_mid (P:=prog) w b o 71 L _ h underlying71 rfl (by rw[hl];exact qg)
theorem put1_any{ep:Nat}{C S:Bal.Bv->Nat}{VB k e v n c s:Nat}{t:Bal.H32}(y:Bal.Bv)(w:World)(hr:w.rangeAt VB 0 (jM k e v n (hsL t) c s)):
  Calls prog 33 #[.agg (qS ep C S y).toArray,.pointer (some ⟨VB,0,none⟩)] w fun r w'=>r=.returned (.bool (decide (y.s=t)))/\Below w.heap.size w w':=by
 obtain⟨L,hL⟩:=je ((qS ep C S y).toArray);have hszL:(prog.info? 71).map (·.size)=some L.size:=by rw[qg,hL];simp[ql]
 obtain⟨T,hT⟩:=je ((jo .u8 (hsL t)).toArray);obtain⟨U,hU⟩:=je ((jo .u8 (hsL y.s)).toArray);have HE:=jh (fun(W:World)=>dK y.s t W);have HR:=jh hr;obtain⟨w1,e1⟩:=je (w.alloc (.cells L 71));have hb1:=jc e1;have hr1:w1.rangeAt w.heap.size 0 (jM y.k ep y.v y.n (hsL y.s) (C y) (S y)):=by rw[e1,hL];exact JT _ _ _
 have l1:=JO hr1 (qt _);have l2:=JO (ju hr hb1) (qt _);rw[<-hT] at HE l2;rw[<-hU] at HE l1;have HB:=jh hb1;have L1:=jh l1;have L2:=jh l2;obtain⟨B,hB⟩:=je (w.heap.size);rw[<-hB] at L1;obtain⟨d,hd⟩:=je (decide (y.s=t));rw[<-hd] at HE;rw[<-hL,<-hd];clear hr1 hb1 l1 l2 hT hU hr hd hL
 go_enter func33,ntmps33
 go_upto_region 1 with fail
 rw[<-e1,<-hB];refine wp_region_lit ?_;refine jL (jP B 4) ?_;refine jL _ ?_ (jd L1.out);refine jL (jP VB 4) ?_;refine jL _ ?_ (jd L2.out);refine zu (v:=.bool d) rfl (qB XD rfl (by kernel_rfl) (by kernel_rfl) (HE.out _)) ?_;simp only[Act.put,pa,pb,pc]
 go_wp2_with fail
 go_ret
 exact⟨rfl,HB.out⟩
theorem IV{ep:Nat}{C S:Bal.Bv->Nat}{VB k e v n0 c s b o cap:Nat}{t:Bal.H32}{l:List Bal.Bv}(hn0:l.length<=1000)(w:World)(hr:w.rangeAt VB 0 (jM k e v n0 (hsL t) c s))(h:iK w b o (qS ep C S) l):
  Calls prog 108 #[.slice (some ⟨b,o,none⟩) l.length cap,.func (.func 33) #[] #[.pointer (some ⟨VB,0,none⟩)]] w fun r w'=>∃q:Int,r=.returned (.int .i64 q)/\(-1<=q/\q<=1000)/\decide (0<=q)=l.any (fun y=>decide (y.s=t))/\Below w.heap.size w w':=by
 have HX:=jh h;have HR:=jh hr;obtain⟨n,hn⟩:=je (l.length);have HN:=jh hn;rw[<-hn];have hnb:n<=1000:=by omega
 have CK:=jh (fun(y:Bal.Bv) (W:World) L8=>put1_any (ep:=ep) (C:=C) (S:=S) (VB:=VB) (k:=k) (e:=e) (v:=v) (n:=n0) (c:=c) (s:=s) (t:=t) y W L8);clear h hn hn0 hr
 go_enter func108,ntmps108
 go_wp2_with fail
 go_loopw [8] (fun i wr=>∃k:Nat,k<=n/\i=.int .i64 k/\Hid ((l.take k).any (fun y=>decide (y.s=t))=false)/\Hid (Below w.heap.size w wr)) (fun i _=>n-(intOf i).toNat)
 case atStart=>exact⟨0,Nat.zero_le _,rfl,jh rfl,jh U3⟩
 case round=>
  obtain⟨j,hj,rfl,HK,HB⟩:=hrel
  by_cases hlt:j<n
  ·obtain⟨x,hx⟩:∃x,l[j]?=some x:=⟨_,Jd (by rw[<-HN.out];exact hlt)⟩;have O6:(j:Int)<(n:Int):=by omega
   have G7:=jh hlt;have HXI:=jh hx;have LV:=jh (NP (ju (HX.out.at (ql _ _ _) hx) HB.out) (ql _ _ _ _));obtain⟨L,hL⟩:=je ((qS ep C S x).toArray);rw[<-hL] at LV;have CKx:=jh (CK.out x wr (ju HR.out HB.out));rw[<-hL] at CKx;clear hx hlt hL
   go_upto_region 4 with fail
   refine wp_region_lit ?_;refine jL (.func (.func 33) #[] #[.pointer (some ⟨VB,0,none⟩)]) ?_;refine jL (.slice (some ⟨b,o,none⟩) n cap) ?_;refine jL (.int .i64 j) ?_;refine jL (jP b (o+j*44)) ?_ (by simp[go_sem,O6]);refine jL _ ?_ (jd LV.out)
   go_wp2_with fail
   by_cases hbad:x.s=t
   ·rw[decide_eq_true hbad] at CKx;refine CKx.out.mono ?_;rintro _ w4 ⟨rfl,hb⟩;have HB:=jw HB hb;have fU:=jh hbad;clear hb hbad
    go_wp2_with fail
    go_ret
    exact⟨_,rfl,⟨by omega,by have:=G7.out;omega⟩,by
     rw[decide_eq_true (show(0:Int)<=(j:Int) by omega)]
     exact(List.any_eq_true.2 ⟨x,List.mem_of_getElem? HXI.out,decide_eq_true fU.out⟩).symm,HB.out⟩
   ·rw[decide_eq_false hbad] at CKx;refine CKx.out.mono ?_;rintro _ w4 ⟨rfl,hb⟩;have HB:=jw HB hb;have fU:=jh hbad;clear hb hbad
    go_wp2_with fail
    go_roundw
    case rel=>exact⟨j+1,G7.out,by go_num,jh (by rw[List.take_add_one,HXI.out,List.any_append,HK.out];simpa using fU.out),HB⟩
    case measure=>simp[intOf];have:=G7.out;omega
  ·obtain rfl:j=n:=by omega
   clear hlt
   go_wp2_with fail
   go_ret
   exact⟨_,rfl,⟨by omega,by omega⟩,by
    have h9:=HK.out;rw[HN.out,List.take_length] at h9;rw[h9]
    rfl,HB.out⟩
theorem idxV_none{VB:Nat}(w:World):
  Calls prog 108 #[.slice none 0 0,.func (.func 33) #[] #[.pointer (some ⟨VB,0,none⟩)]] w fun r w'=>r=.returned (.int .i64 (-1))/\Below w.heap.size w w':=by
 go_enter func108,ntmps108
 go_wp2_with fail
 go_loopw [8] (fun i wr=>i=.int .i64 0/\Hid (Below w.heap.size w wr)) (fun i _=>0)
 case atStart=>exact⟨rfl,jh U3⟩
 case round=>
  obtain⟨rfl,HB⟩:=hrel
  go_wp2_with fail
  go_ret
  exact⟨rfl,HB.out⟩
theorem xW{ep B:Nat}{C S:Bal.Bv->Nat}{VB k e v n0 c s n:Nat}{t:Bal.H32}{u:Value}{l:List Bal.Bv}(hl:l.length=n)(hn0:l.length<=1000)(w:World)(hr:w.rangeAt VB 0 (jM k e v n0 (hsL t) c s))(h:O1 w B 71 44 u n (l.flatMap (qS ep C S))):
  Calls prog 32 #[u,.func (.func 33) #[] #[.pointer (some ⟨VB,0,none⟩)]] w fun r w'=>r=.returned (.bool (l.any (fun y=>decide (y.s=t))))/\Below w.heap.size w w':=by
 have CI:∃q:Int,(-1<=q/\q<=1000)/\decide (0<=q)=l.any (fun y=>decide (y.s=t))/\True:=by
  cases hq:l.any (fun y=>decide (y.s=t))
  ·exact⟨-1,by omega,by decide,trivial⟩
  ·exact⟨0,by omega,by decide,trivial⟩
 have CX:Hid (Calls prog 108 #[u,.func (.func 33) #[] #[.pointer (some ⟨VB,0,none⟩)]] w fun r w'=>∃q:Int,r=.returned (.int .i64 q)/\(-1<=q/\q<=1000)/\decide (0<=q)=l.any (fun y=>decide (y.s=t))/\Below w.heap.size w w'):=jh (by
  rcases Nat.eq_zero_or_pos n with h0|h0
  ·obtain rfl:l=[]:=List.eq_nil_of_length_eq_zero (by omega)
   rcases h.2 with⟨rfl,_⟩|⟨g,o,cap,cur,rfl,_⟩
   ·exact(idxV_none (VB:=VB) w).mono fun r w' ⟨h1,h2⟩=>⟨-1,h1,by omega,by simp,h2⟩
   ·have h9:=IV (ep:=ep) (C:=C) (S:=S) (cap:=cap) (b:=g) (o:=o) (l:=[]) (by simp) w hr (fun j u hj=>by simp at hj);rw[h0];exact h9
  ·obtain⟨b,o,cap,rfl,hv⟩:=Qa h h0;rw[<-hl]
   exact IV hn0 w hr hv)
 obtain⟨a0,c0,rfl⟩:=h.shape9;obtain⟨d,hd⟩:=je (l.any (fun y=>decide (y.s=t)));rw[<-hd] at CX⊢;clear hd h hr hl hn0 CI
 go_enter func32,ntmps32
 go_wp2_with fail
 refine CX.out.mono ?_;rintro _ w1 ⟨q,rfl,⟨h1,h2⟩,h3,hb⟩;have HB:=jh hb;have H3:=jh h3;clear h3 hb
 go_wp2_with fail
 go_ret
 exact⟨by rw[<-H3.out];rfl,HB.out⟩
structure A7(w:World)(rb gp gq gg gh n cap kb ko ep base:Nat)(fa se:Int)(ks:List (Nat×Nat))(vv:Bal.Bv->List Value)(E:List Bal.Bv)(lv:Value):Prop where
 set:TA w rb gp gq gg gh fa se (.slice (some ⟨kb,ko,none⟩) n cap)
 epo:w.cell? ⟨rb,19,none⟩=some (.int .u64 ep)
 lc:w.cell? ⟨rb,20,none⟩=some lv
 l:O1 w base 71 44 lv E.length (E.flatMap vv)
 free:w.frozen? ⟨rb,20,none⟩=false
 keys:Y4 w kb ko ks
 lt:rb<base/\kb<base/\kb≠rb
 bs:base<=w.heap.size
section
variable {w w':World}{rb gp gq gg gh n cap kb ko ep base:Nat}{fa se:Int}{ks:List (Nat×Nat)}{vv:Bal.Bv->List Value}{E:List Bal.Bv}{lv:Value}
theorem A7.blocks(h:A7 w rb gp gq gg gh n cap kb ko ep base fa se ks vv E lv)(hr:w'.heap[rb]?=w.heap[rb]?) (hk:w'.heap[kb]?=w.heap[kb]?) (hl:∀g,lv.ownBlock=some g->w'.heap[g]?=w.heap[g]?) (hs:base<=w'.heap.size):A7 w' rb gp gq gg gh n cap kb ko ep base fa se ks vv E lv:=
 ⟨h.set.block hr,zQ h.epo hr,zQ h.lc hr,O1.block h.l hl,(World.frozen?_of_block (w:=w) (a:=⟨rb,20,none⟩) hr).trans h.free,h.keys.block hk,h.lt,hs⟩
theorem A7.later(h:A7 w rb gp gq gg gh n cap kb ko ep base fa se ks vv E lv)(hb:Below w.heap.size w w'):A7 w' rb gp gq gg gh n cap kb ko ep base fa se ks vv E lv:=
 h.blocks (hb.block _ (jv h.lt.1 h.bs)) (hb.block _ (jv h.lt.2.1 h.bs)) (fun g hg=>hb.block g (qr h.l hg).2) (Nat.le_trans h.bs hb.size)
theorem A7.at(h:A7 w rb gp gq gg gh n cap kb ko ep base fa se ks vv E lv)(hvv:∀x,(vv x).length=44){i:Nat}{x:Bal.Bv}(hx:E[i]?=some x):∃b o c,lv=.slice (some ⟨b,o,none⟩) E.length c/\w.rangeAt b (o+i*44) (vv x):=by
 have hi:=(List.getElem?_eq_some_iff.1 hx).1;obtain⟨b,o,c,e,hv⟩:=Qa h.l (by omega);exact⟨b,o,c,e,hv.at hvv hx⟩
end
namespace Bal
theorem cnt_succ(E:List Bv)(j v:Nat):farN E (j+1) v=farN E j v+if(E.any fun x=>decide (x.n=j+1/\v<=x.v))=true then 1 else 0:=by
 unfold farN;rw[List.range_succ,List.countP_append,List.countP_cons,List.countP_nil,Nat.zero_add]
theorem any_not{E:List Bv}{p:Bv->Bool}(h:∀i x,i<E.length->E[i]?=some x->p x=false):E.any p=false:=by
 rw[Bool.eq_false_iff];intro e;obtain⟨x,hx,hp⟩:=List.any_eq_true.1 e;obtain⟨i,hi⟩:=List.mem_iff_getElem?.1 hx;rw[h i x (List.getElem?_eq_some_iff.1 hi).1 hi] at hp
 cases hp
theorem any_yes{E:List Bv}{p:Bv->Bool}{i:Nat}{x:Bv}(h:E[i]?=some x) (hp:p x=true):E.any p=true:=List.any_eq_true.2 ⟨x,List.mem_of_getElem? h,hp⟩
theorem any_cnt(E:List Bv)(j k v:Nat):anyOf E (j+1) k v=anyOf E j k v+if(E.any fun x=>decide (x.k=k/\x.v=v/\x.n=j+1))=true then 1 else 0:=by
 unfold anyOf;rw[List.range_succ,List.countP_append,OW,List.countP_cons,List.countP_nil,Nat.zero_add]
theorem take_far(E:List Bv)(N s p:Nat){x:Bv}(h:E[p]?=some x):(E.take (p+1)).foldl (farStep E N s) 0=farStep E N s ((E.take p).foldl (farStep E N s) 0) x:=by
 rw[List.take_add_one,h]
 simp
theorem far_lt(E:List Bv)(N s p:Nat)(hE:∀x∈E,x.v<4294967296):(E.take p).foldl (farStep E N s) 0<4294967296:=by
 rcases(MI E N s (E.take p) 0).2.2 with h|⟨x,hx,_,h⟩
 ·rw[h];decide
 ·rw[h];exact hE x (List.mem_of_mem_take hx)
end Bal
theorem RAny_any{rb gp gq gg gh n cap kb ko ep base k v:Nat}{fa se:Int}{ks:List (Nat×Nat)}{C S:Bal.Bv->Nat}{E:List Bal.Bv}{lv:Value}(hn7:n<=7)(hE:E.length<=1000)(hEn:∀x∈E,x.n<256)(w:World)(h:A7 w rb gp gq gg gh n cap kb ko ep base fa se ks (qS ep C S) E lv):
  Calls prog 17 #[.pointer (some ⟨rb,0,none⟩),.int .u8 k,.int .u32 v] w fun r w'=>r=.returned (.int .i64 (Bal.anyOf E n k v))/\w'=w:=by
 have HX:=jh h;obtain⟨m,hm⟩:=je (E.length);have HM:=jh hm;obtain⟨a,c,hlv⟩:=h.l.sl;have aU:=jh hlv;have c20:=h.lc;have c18:=h.set.nd;rw[hlv,<-hm] at c20;have mI:(m:Int)<=1000:=by omega
 have nI:(n:Int)<=7:=by omega
 have HEN:=jh hEn;clear h hlv hm hEn
 go_enter func17,ntmps17
 go_wp2_with fail
 go_loopw [7,8] (fun t nd wr=>∃j y:Nat,j<=n/\nd=.int .i64 ((j:Int)+1)/\t=.int .i64 y/\y<=j/\Hid (y=Bal.anyOf E j k v)/\wr=w) (fun _ nd _=>n+1-(intOf nd).toNat)
 case atStart=>exact⟨0,0,Nat.zero_le _,rfl,rfl,Nat.le_refl _,jh rfl,rfl⟩
 case round=>
  obtain⟨j,y,hj,rfl,rfl,hy,HY,hw⟩:=hrel;subst hw
  by_cases hjn:j<n
  ·have hjI:(j:Int)+1<=(n:Int):=by omega
   go_wp2_with fail
   go_loopw [7,9] (fun t i wq=>∃p:Nat,p<=m/\i=.int .i64 p/\t=.int .i64 y/\Hid (∀q x,q<p->E[q]?=some x->¬(x.k=k/\x.v=v/\x.n=j+1))/\wq=wr) (fun _ i _=>m-(intOf i).toNat)
   case atStart=>exact⟨0,Nat.zero_le _,rfl,rfl,jh (fun q x hq=>absurd hq (Nat.not_lt_zero _)),rfl⟩
   case round=>
    obtain⟨p,hp,rfl,rfl,HP,hw⟩:=hrel;subst hw
    by_cases hlt:p<m
    ·have O6:(p:Int)<(m:Int):=by omega
     obtain⟨x,hx⟩:∃x,E[p]?=some x:=⟨_,Jd (by rw[<-HM.out];exact hlt)⟩;obtain⟨b,o,c9,e9,hr⟩:=HX.out.at (ql ep C S) hx;rw[aU.out] at e9;injection e9 with e1 _ e2
     subst e1;subst e2;have xnI:(x.n:Int)<=255:=by have:=HEN.out x (List.mem_of_getElem? hx);omega
     have L8:wr.rangeAt b (o+p*44) (jM x.k ep x.v x.n (hsL x.s) (C x) (S x)):=hr;have y0:=Qp L8;have y1:=Qf L8;have y2:=Zq L8;have U9:=jh hx;clear hr L8 hx
     by_cases h1:x.k=k/\x.v=v/\x.n=j+1
     ·obtain⟨h1,h2,h3⟩:=h1;have q1:(x.k:Int)=(k:Int):=by omega
      have q2:(x.v:Int)=(v:Int):=by omega
      have q3:(x.n:Int)=(j:Int)+1:=by omega
      have HA:=jh (show Bal.anyOf E (j+1) k v=y+1 by rw[Bal.any_cnt,Bal.any_yes U9.out (by simp[h1,h2,h3]),if_pos rfl,HY.out]);rw[q1] at y0;rw[q2] at y1;rw[q3] at y2 xnI;clear h1 h2 h3 q1 q2 q3
      go_wp2_with fail
      go_roundw
      case rel=>exact⟨j+1,y+1,by omega,by go_num,by go_num,by omega,jh HA.out.symm,by first|rfl|trivial⟩
      case measure=>simp[intOf];omega
     ·have HN:=jh h1
      by_cases h1:x.k=k
      ·have q1:(x.k:Int)=(k:Int):=by omega
       rw[q1] at y0
       by_cases h2:x.v=v
       ·have q2:(x.v:Int)=(v:Int):=by omega
        have q3:((x.n:Int)==(j:Int)+1)=false:=beq_eq_false_iff_ne.2 (by have:=HN.out;omega);rw[q2] at y1;clear h1 h2 q1 q2
        go_wp2_with fail
        go_roundw
        case rel=>exact⟨p+1,by omega,by go_num,rfl,jh (fun q z hq hz=>by by_cases e:q=p;(subst e;rw[U9.out] at hz;cases hz;exact HN.out);exact HP.out q z (by omega) hz),by first|rfl|trivial⟩
        case measure=>simp[intOf];omega
       ·have q2:((x.v:Int)==(v:Int))=false:=beq_eq_false_iff_ne.2 (by omega);clear h1 h2 q1
        go_wp2_with fail
        go_roundw
        case rel=>exact⟨p+1,by omega,by go_num,rfl,jh (fun q z hq hz=>by by_cases e:q=p;(subst e;rw[U9.out] at hz;cases hz;exact HN.out);exact HP.out q z (by omega) hz),by first|rfl|trivial⟩
        case measure=>simp[intOf];omega
      ·have q1:((x.k:Int)==(k:Int))=false:=beq_eq_false_iff_ne.2 (by omega);clear h1
       go_wp2_with fail
       go_roundw
       case rel=>exact⟨p+1,by omega,by go_num,rfl,jh (fun q z hq hz=>by by_cases e:q=p;(subst e;rw[U9.out] at hz;cases hz;exact HN.out);exact HP.out q z (by omega) hz),by first|rfl|trivial⟩
       case measure=>simp[intOf];omega
    ·obtain rfl:p=m:=by omega
     have HA:=jh (show Bal.anyOf E (j+1) k v=y by rw[Bal.any_cnt,Bal.any_not (fun q x hq hx=>decide_eq_false (HP.out q x (by rw[HM.out];exact hq) hx)),if_neg (by decide),HY.out];rfl)
     go_wp2_with fail
     go_roundw
     case rel=>exact⟨j+1,y,by omega,by go_num,rfl,by omega,jh HA.out.symm,by first|rfl|trivial⟩
     case measure=>simp[intOf];omega
  ·obtain rfl:j=n:=by omega
   have hjI:¬(j:Int)+1<=(j:Int):=by omega
   go_wp2_with fail
   go_ret
   exact⟨by rw[HY.out];rfl,rfl⟩
theorem RFar_any{rb gp gq gg gh n cap kb ko ep base:Nat}{fa se:Int}{ks:List (Nat×Nat)}{C S:Bal.Bv->Nat}{E:List Bal.Bv}{lv:Value}(hn7:n<=7)(hE:E.length<=1000)(hEn:∀x∈E,x.n<256)(hEv:∀x∈E,x.v<4294967296){f:Nat}(hf:fa=f)(hf2:f<=2)(w:World)(h:A7 w rb gp gq gg gh n cap kb ko ep base fa se ks (qS ep C S) E lv):
  Calls prog 19 #[.pointer (some ⟨rb,0,none⟩)] w fun r w'=>r=.returned (.int .u32 (Bal.farRef E n (f+1):Nat))/\w'=w:=by
 have HEV:=jh hEv;have CS:=jh (fun(W:World)=>rsome_any fa (by omega) W);rw[hf] at CS;have HX:=jh h;obtain⟨m,hm⟩:=je (E.length);have HM:=jh hm;obtain⟨a,c,hlv⟩:=h.l.sl;have aU:=jh hlv;have c20:=h.lc;have c18:=h.set.nd;have c17:=h.set.fa;rw[hf] at c17;rw[hlv,<-hm] at c20;have mI:(m:Int)<=1000:=by omega
 have nI:(n:Int)<=7:=by omega
 have HEN:=jh hEn;clear h hlv hm hEn
 go_enter func19,ntmps19
 go_wp2_with fail
 clear hf
 go_loopw [3,4] (fun t i wr=>∃p y:Nat,p<=m/\i=.int .i64 p/\t=.int .u32 y/\Hid (y=(E.take p).foldl (Bal.farStep E n (f+1)) 0)/\wr=w) (fun _ i _=>m-(intOf i).toNat)
 case atStart=>exact⟨0,0,Nat.zero_le _,rfl,rfl,jh rfl,rfl⟩
 case round=>
  obtain⟨p,y,hp,rfl,rfl,HY,hw⟩:=hrel;subst hw
  by_cases hlt:p<m
  ·have O6:(p:Int)<(m:Int):=by omega
   obtain⟨x,hx⟩:∃x,E[p]?=some x:=⟨_,Jd (by rw[<-HM.out];exact hlt)⟩;obtain⟨b,o,c9,e9,hr⟩:=HX.out.at (ql ep C S) hx;rw[aU.out] at e9;injection e9 with e1 _ e2
   subst e1;subst e2;have xnI:(x.n:Int)<=255:=by have:=HEN.out x (List.mem_of_getElem? hx);omega
   have L8:wr.rangeAt b (o+p*44) (jM x.k ep x.v x.n (hsL x.s) (C x) (S x)):=hr;have y0:=Qf L8;have U9:=jh hx;clear hr L8 hx;obtain⟨v,hv⟩:=je (x.v);rw[<-hv] at y0;have HV:=jh hv;have hvI:(v:Int)<=4294967295:=by have:=HEV.out x (List.mem_of_getElem? U9.out);omega
   have hyI:(y:Int)<=4294967295:=by have:=Bal.far_lt E n (f+1) p HEV.out;rw[<-HY.out] at this;omega
   clear hv xnI
   go_wp2_with fail
   go_loopw [6,7] (fun t nd wq=>∃j z:Nat,j<=n/\nd=.int .i64 ((j:Int)+1)/\t=.int .i64 z/\z<=j/\Hid (z=Bal.farN E j v)/\wq=wr) (fun _ nd _=>n+1-(intOf nd).toNat)
   case atStart=>exact⟨0,0,Nat.zero_le _,rfl,rfl,Nat.le_refl _,jh rfl,rfl⟩
   case round=>
    obtain⟨j,z,hj,rfl,rfl,hz,HZ,hw⟩:=hrel;subst hw
    by_cases hjn:j<n
    ·have hjI:(j:Int)+1<=(n:Int):=by omega
     go_wp2_with fail
     go_loopw [6,8] (fun t i wq=>∃p2:Nat,p2<=m/\i=.int .i64 p2/\t=.int .i64 z/\Hid (∀q x,q<p2->E[q]?=some x->¬(x.n=j+1/\v<=x.v))/\wq=wr) (fun _ i _=>m-(intOf i).toNat)
     case atStart=>exact⟨0,Nat.zero_le _,rfl,rfl,jh (fun q x hq=>absurd hq (Nat.not_lt_zero _)),rfl⟩
     case round=>
      clear y0 hlt O6;obtain⟨p2,hp2,rfl,rfl,HP,hw⟩:=hrel;subst hw
      by_cases hlt:p2<m
      ·have O6:(p2:Int)<(m:Int):=by omega
       obtain⟨u,hx⟩:∃x,E[p2]?=some x:=⟨_,Jd (by rw[<-HM.out];exact hlt)⟩;obtain⟨b,o,c9,e9,hr⟩:=HX.out.at (ql ep C S) hx;rw[aU.out] at e9;injection e9 with e1 _ e2
       injection e1 with e1;injection e1 with eb eo _;subst eb;subst eo
       subst e2;have unI:(u.n:Int)<=255:=by have:=HEN.out u (List.mem_of_getElem? hx);omega
       have L8:wr.rangeAt b (o+p2*44) (jM u.k ep u.v u.n (hsL u.s) (C u) (S u)):=hr;have y0:=Zq L8;have y1:=Qf L8;have HUU:=jh hx;clear hr L8 hx;have uvI:(u.v:Int)<=4294967295:=by have:=HEV.out u (List.mem_of_getElem? HUU.out);omega
       by_cases h1:u.n=j+1/\v<=u.v
       ·obtain⟨h1,h2⟩:=h1;have q1:(u.n:Int)=(j:Int)+1:=by omega
        have q2:(v:Int)<=(u.v:Int):=by omega
        have HA:=jh (show Bal.farN E (j+1) v=z+1 by rw[Bal.cnt_succ,Bal.any_yes HUU.out (by simp[h1,h2]),if_pos rfl,HZ.out]);rw[q1] at y0 unI;clear h1 h2 q1
        go_wp2_with fail
        go_roundw
        case rel=>exact⟨j+1,z+1,by omega,by go_num,by go_num,by omega,jh HA.out.symm,by first|rfl|trivial⟩
        case measure=>simp[intOf];omega
       ·have HN:=jh h1
        by_cases h1:u.n=j+1
        ·have q1:(u.n:Int)=(j:Int)+1:=by omega
         have q2:¬(v:Int)<=(u.v:Int):=by have:=HN.out;omega
         rw[q1] at y0 unI;clear h1 q1
         go_wp2_with fail
         go_roundw
         case rel=>exact⟨p2+1,by omega,by go_num,rfl,jh (fun q z9 hq yO=>by by_cases e:q=p2;(subst e;rw[HUU.out] at yO;cases yO;exact HN.out);exact HP.out q z9 (by omega) yO),by first|rfl|trivial⟩
         case measure=>simp[intOf];omega
        ·have q1:((u.n:Int)==(j:Int)+1)=false:=beq_eq_false_iff_ne.2 (by omega);clear h1
         go_wp2_with fail
         go_roundw
         case rel=>exact⟨p2+1,by omega,by go_num,rfl,jh (fun q z9 hq yO=>by by_cases e:q=p2;(subst e;rw[HUU.out] at yO;cases yO;exact HN.out);exact HP.out q z9 (by omega) yO),by first|rfl|trivial⟩
         case measure=>simp[intOf];omega
      ·obtain rfl:p2=m:=by omega
       have HA:=jh (show Bal.farN E (j+1) v=z by rw[Bal.cnt_succ,Bal.any_not (fun q x hq hx=>decide_eq_false (HP.out q x (by rw[HM.out];exact hq) hx)),if_neg (by decide),HZ.out];rfl)
       go_wp2_with fail
       go_roundw
       case rel=>exact⟨j+1,z,by omega,by go_num,rfl,by omega,jh HA.out.symm,by first|rfl|trivial⟩
       case measure=>simp[intOf];omega
    ·obtain rfl:j=n:=by omega
     have hjI:¬(j:Int)+1<=(j:Int):=by omega
     have HT:=jh (Bal.take_far E j (f+1) p U9.out)
     by_cases hq:f+1<=z
     ·have hqI:(f:Int)+1<=(z:Int):=by omega
      by_cases vM:y<v
      ·have hmI:(y:Int)<(v:Int):=by omega
       have HA:=jh (show(E.take (p+1)).foldl (Bal.farStep E j (f+1)) 0=v by rw[HT.out,<-HY.out];unfold Bal.farStep;rw[<-HV.out,if_pos (by rw[<-HZ.out];exact hq)];omega);clear hq vM
       go_wp2_with fail
       refine(CS.out _).mono ?_;rintro _ w9 ⟨rfl,hw⟩;subst hw
       go_wp2_with fail
       go_roundw
       case rel=>exact⟨p+1,v,by omega,by go_num,by first|rfl|(congr 1;omega),jh HA.out.symm,by first|rfl|trivial⟩
       case measure=>simp[intOf];omega
      ·have hmI:¬(y:Int)<(v:Int):=by omega
       have HA:=jh (show(E.take (p+1)).foldl (Bal.farStep E j (f+1)) 0=y by rw[HT.out,<-HY.out];unfold Bal.farStep;rw[<-HV.out,if_pos (by rw[<-HZ.out];exact hq)];omega);clear hq vM
       go_wp2_with fail
       refine(CS.out _).mono ?_;rintro _ w9 ⟨rfl,hw⟩;subst hw
       go_wp2_with fail
       go_roundw
       case rel=>exact⟨p+1,y,by omega,by go_num,by first|rfl|(congr 1;omega),jh HA.out.symm,by first|rfl|trivial⟩
       case measure=>simp[intOf];omega
     ·have hqI:¬(f:Int)+1<=(z:Int):=by omega
      have HA:=jh (show(E.take (p+1)).foldl (Bal.farStep E j (f+1)) 0=y by rw[HT.out,<-HY.out];unfold Bal.farStep;rw[<-HV.out,if_neg (by rw[<-HZ.out];exact hq)]);clear hq
      go_wp2_with fail
      refine(CS.out _).mono ?_;rintro _ w9 ⟨rfl,hw⟩;subst hw
      go_wp2_with fail
      go_roundw
      case rel=>exact⟨p+1,y,by omega,by go_num,by first|rfl|(congr 1;omega),jh HA.out.symm,by first|rfl|trivial⟩
      case measure=>simp[intOf];omega
  ·obtain rfl:p=m:=by omega
   go_wp2_with fail
   go_ret
   exact⟨by rw[HY.out,HM.out,List.take_length];rfl,rfl⟩
def Qd(gp gq gg n:Nat)(ks:List (Nat×Nat))(k e v nd:Nat)(h:List Nat)(c s:Nat):Bool:=
 if k≠1/\k≠2 then false else if 1073741824<v then false else if nd<1 then false else if n<nd then false else uD gp gq gg (ks.getD (nd-1) (0,0)).1 c s (Jo k e v nd h)
theorem fE{gp gq gg n:Nat}{ks:List (Nat×Nat)}{k e v nd:Nat}{h:List Nat}{c s:Nat}(h1:k≠1/\k≠2):Qd gp gq gg n ks k e v nd h c s=false:=if_pos h1
theorem YD{gp gq gg n:Nat}{ks:List (Nat×Nat)}{k e v nd:Nat}{h:List Nat}{c s:Nat}(h1:1073741824<v):Qd gp gq gg n ks k e v nd h c s=false:=by
 unfold Qd;rw[if_pos h1]
 split<;>rfl
theorem vG{gp gq gg n:Nat}{ks:List (Nat×Nat)}{k e v nd:Nat}{h:List Nat}{c s:Nat}(h1:nd<1):Qd gp gq gg n ks k e v nd h c s=false:=by
 unfold Qd;rw[if_pos h1]
 split
 ·rfl
 ·split<;>rfl
theorem iE{gp gq gg n:Nat}{ks:List (Nat×Nat)}{k e v nd:Nat}{h:List Nat}{c s:Nat}(h1:n<nd):Qd gp gq gg n ks k e v nd h c s=false:=by
 unfold Qd;rw[if_pos h1]
 split
 ·rfl
 ·split
  ·rfl
  ·split<;>rfl
theorem kN{gp gq gg n:Nat}{ks:List (Nat×Nat)}{k e v nd:Nat}{h:List Nat}{c s:Nat}(h1:k=1∨k=2)(h2:v<=1073741824)(h3:1<=nd)(h4:nd<=n):Qd gp gq gg n ks k e v nd h c s=uD gp gq gg (ks.getD (nd-1) (0,0)).1 c s (Jo k e v nd h):=by
 unfold Qd;rw[if_neg (by omega),if_neg (by omega),if_neg (by omega),if_neg (by omega)]
theorem EW{gp gq gg gh n:Nat}{fa se:Int}{ks:List (Nat×Nat)}(h:qi gp gq gg gh fa se n ks=true):YH gp gq gg:=by
 unfold qi at h
 repeat' (split at h; · cases h)
 rename_i h1 h2 h3 h4 h5 h6 h7 h8
 simp only[Bool.or_eq_true,not_or,zw,Bool.not_eq_true',decide_eq_false_iff_not,Decidable.not_not,decide_eq_true_eq] at h8;exact h8.1.1
theorem uX{gp gq gg gh n cap k e v nd c s:Nat}{fa se:Int}{KB ko:Nat}{ks:List (Nat×Nat)}{h:List Nat}(st:StOk gp gq gg gh n fa se ks)(hl:h.length=32)(hby:qk h)(hk8:k<256)(he:e<18446744073709551616)(hv:v<4294967296)(hnd:nd<256)(hc:c<jk)(hs:s<jk)(w:World)(hk:Y4 w KB ko ks):
  Calls prog 20 #[zC gp gq gg gh fa se (.slice (some ⟨KB,ko,none⟩) n cap),qU k e v nd h c s] w fun r w'=>r=.returned (.bool (Qd gp gq gg n ks k e v nd h c s))/\Below w.heap.size w w':=by
 obtain⟨R,hR⟩:=je (Qd gp gq gg n ks k e v nd h c s);rw[<-hR];have hn7:=st.hn7;have hn:=st.hn;have hall:=EW st.ok;have HRk:=jh (fun(h1:k≠1/\k≠2)=>hR.trans (fE h1));have HRv:=jh (fun(h1:1073741824<v)=>hR.trans (YD h1));have HRl:=jh (fun(h1:nd<1)=>hR.trans (vG h1));have HRh:=jh (fun(h1:n<nd)=>hR.trans (iE h1));have HRy:=jh (fun(h1:k=1∨k=2) (h2:v<=1073741824) (h3:1<=nd) (h4:nd<=n)=>hR.trans (kN h1 h2 h3 h4));have CV:=jh (fun(W:World)=>WVote_any (c:=c) (s:=s) (e:=e) W hl hby hk8 hv hnd);have CK:=jh (fun(i key k9:Nat) (hki:ks[i]?=some (key,k9)) (W:World)=>by have h7:=st.keys _ (List.mem_of_getElem? hki);have h9:=CheckS_all (gh:=gh) (h:=Jo k e v nd h) st.may st.hm st.hgg st.q1 st.hq h7.1 h7.2 hc hs (by unfold Jo;exact jY _) (by unfold Jo;exact JS _) W;unfold qj ji words at h9;exact h9);have CD:=jh (fun(W:World) (hk9:Y4 W KB ko ks)=>by have h9:=XH (cap:=cap) (ao:=some ⟨KB,ko,none⟩) st.hx st.hq st.hm st.hgg st.hgh st.hn st.hfa st.hse (by omega) W (fun _=>⟨KB,ko,rfl,hk9⟩);rw[st.ok] at h9;exact h9);obtain⟨T,hT⟩:=je ((jo .u8 (Jo k e v nd h)).toArray);rw[<-hT] at CV CK;have HN:=jh hn;have nI7:n<=7:=hn7;clear hT hR hall hn hn7 st hc hs he hby hk8;obtain⟨SV,OC⟩:∃SV,zC gp gq gg gh fa se (.slice (some ⟨KB,ko,none⟩) n cap)=.agg SV:=⟨_,rfl⟩;have NY:(prog.info? 33).map (·.size)=some SV.size:=by rw[RD,KE OC]
 obtain⟨VV,Y8⟩:=je ((jM k e v nd h c s).toArray);have N9:(prog.info? 71).map (·.size)=some VV.size:=by rw[qg,Y8];simp[qz hl]
 have FS:=jh (show∀W:World,TA (W.alloc (.cells SV 33)) W.heap.size gp gq gg gh fa se (.slice (some ⟨KB,ko,none⟩) n cap) by intro W;have e9:=OC;unfold zC at e9;injection e9 with e9;rw[<-e9];exact TA.new _ _ _ _ _ _ _ _ _);have HSS:=jh NY;have I7:=jh N9;have HL:=jh hl;have iF:=jh hk;rw[OC] at CD⊢;unfold qU at CV⊢;rw[<-Y8] at CV⊢;have HVV:=jh Y8;have lX:=jh OC;clear Y8 OC hk hl
 go_enter func20,ntmps20
 go_upto_region 1 with fail
 obtain⟨V8,e0⟩:=je (w.alloc (.cells SV 33));obtain⟨v_1,e1⟩:=je (V8.alloc (.cells VV 71));have s0:V8.heap.size=w.heap.size+1:=by rw[e0];simp
 have b0:=jc e0;have b1:=jc e1;have f0:TA V8 w.heap.size gp gq gg gh fa se (.slice (some ⟨KB,ko,none⟩) n cap):=by rw[e0];exact FS.out w
 have f1:v_1.rangeAt (w.heap.size+1) 0 (jM k e v nd h c s):=by rw[<-s0,e1,HVV.out];exact JT _ _ _
 rw[<-e0,<-e1];obtain⟨SB,bC⟩:=je (w.heap.size);rw[<-bC] at f0 f1⊢;obtain⟨VB,lD⟩:=je (SB+1);rw[<-lD] at f1⊢;have HS:=jh (f0.later b1);have HV:=jh f1;have HB:=jh (jm b0 b1);have iF:=jh (iF.out.later HB.out);clear e0 e1 s0 b0 b1 f0 f1 bC lD FS HSS I7
 by_cases hkd:k≠1/\k≠2
 ·have k1I:((k:Int)==1)=false:=beq_eq_false_iff_ne.2 (by omega);have k2I:((k:Int)==2)=false:=beq_eq_false_iff_ne.2 (by omega);have y0:=Qp HV.out
  go_upto_region 2 with fail
  clear y0 k1I k2I;have HR:=jh (show R=false from HRk.out hkd);clear hkd hv hnd;refine jK [(0,true),(1,true),(2,true),(3,true),(4,true),(5,true),(6,true),(7,true),(8,true),(9,true),(10,true),(11,true),(12,true),(13,true),(14,true),(15,true),(16,true),(17,true),(18,true),(19,true),(20,true),(21,true),(22,false),(23,true),(24,true),(25,true),(26,true),(27,true),(28,true),(29,true),(30,true),(31,true),(32,true),(33,true),(34,true),(35,true),(37,true),(38,true),(36,false),(39,false),(40,true),(41,true)] (fun w8=>TA w8 SB gp gq gg gh fa se (.slice (some ⟨KB,ko,none⟩) n cap)/\w8.rangeAt VB 0 (jM k e v nd h c s)/\Y4 w8 KB ko ks) (by kernel_rfl) (by kernel_rfl) (fun _ _ _ _ _ h=>h) (⟨HS.out.later (U3.drew),ju HV.out (U3.drew),iF.out.later (U3.drew)⟩) (fun hHeld=>?_)
  iterate 3
   refine jq ?_;refine jq ?_;refine jR ?_;refine jR ?_;refine jR ?_
  iterate 4
   refine jR ?_
  refine jq ?_;refine jq ?_;refine jR ?_;refine WP.step rfl (fun K hK=>?_);refine zp (by rfl) ?_;refine qD hK (hHeld) (fun hHeld=>?_);clear hK K;refine jq ?_;refine jq ?_
  iterate 13
   refine jR ?_
  iterate 2
   refine WP.step rfl (fun K hK=>?_);refine zp (by rfl) ?_;refine qD hK (hHeld) (fun hHeld=>?_);clear hK K
  refine jq ?_;refine jq ?_;refine WP.done ?_;clear hHeld
  go_wp2_with fail
  go_ret
  exact⟨by rw[HR.out];rfl,HB.out.drew⟩
 ·have hkd:k=1∨k=2:=by omega
  have HKD:=jh hkd;have hkI:((k:Int)==1)=true∨((k:Int)==1)=false/\((k:Int)==2)=true:=by rcases hkd with h|h<;>(subst h;decide)
  have y0:=Qp HV.out
  rcases hkI with hkI|⟨hkI,hkJ⟩
  all_goals
   go_upto_region 2 with fail
   clear y0 hkI hkd
   by_cases hvv:1073741824<v
   ·skip
    have HR:=jh (show R=false from HRv.out hvv);have QV:=jh (show decide ((v:Int)<=1073741824)=false by simp;omega);clear hv hnd;refine jK [(0,true),(1,true),(2,true),(3,true),(4,true),(5,true),(6,true),(7,true),(8,true),(9,true),(10,true),(11,true),(12,true),(13,true),(14,true),(15,true),(16,true),(17,true),(18,true),(19,true),(20,true),(21,true),(22,false),(23,true),(24,true),(25,true),(26,true),(27,true),(28,true),(29,true),(30,true),(31,true),(32,true),(33,true),(34,true),(35,true),(37,true),(38,true),(36,false),(39,false),(40,true),(41,true)] (fun w8=>TA w8 SB gp gq gg gh fa se (.slice (some ⟨KB,ko,none⟩) n cap)/\w8.rangeAt VB 0 (jM k e v nd h c s)/\Y4 w8 KB ko ks) (by kernel_rfl) (by kernel_rfl) (fun _ _ _ _ _ h=>h) (⟨HS.out.later (U3.drew),ju HV.out (U3.drew),iF.out.later (U3.drew)⟩) (fun hHeld=>?_);refine jq ?_;refine jq ?_;refine jq ?_;refine jx (.int .u32 v) rfl (fun w8 hSw=>jd (BR (Qf hSw.2.1))) ?_;refine jx (.bool false) rfl (fun w8 hSw=>by have e9:=QV.out;simp[go_sem,e9]) ?_;refine jq ?_;refine jq ?_;refine jR ?_;refine jR ?_;refine jR ?_;refine jq ?_;refine jq ?_;refine jR ?_;refine jR ?_;refine jR ?_;refine jR ?_;refine jR ?_;refine jR ?_;refine jR ?_;refine jq ?_;refine jq ?_;refine jR ?_;refine WP.step rfl (fun K hK=>?_);refine zp (by rfl) ?_;refine qD hK (hHeld) (fun hHeld=>?_);clear hK K;refine jq ?_;refine jq ?_;refine jR ?_;refine jR ?_;refine jR ?_;refine jR ?_;refine jR ?_;refine jR ?_;refine jR ?_;refine jR ?_;refine jR ?_;refine jR ?_;refine jR ?_;refine jR ?_;refine jR ?_;refine WP.step rfl (fun K hK=>?_);refine zp (by rfl) ?_;refine qD hK (hHeld) (fun hHeld=>?_);clear hK K;refine WP.step rfl (fun K hK=>?_);refine zp (by rfl) ?_;refine qD hK (hHeld) (fun hHeld=>?_);clear hK K;refine jq ?_;refine jq ?_;refine WP.done ?_;clear hHeld
    go_wp2_with fail
    go_ret
    exact⟨by rw[HR.out];rfl,HB.out.drew⟩
   by_cases hn1:nd<1
   ·skip
    have HR:=jh (show R=false from HRl.out hn1);have QV:=jh (show decide ((v:Int)<=1073741824)=true by simp;omega);have QN1:=jh (show decide ((1:Int)<=(nd:Int))=false by simp;omega);clear hv hnd;refine jK [(0,true),(1,true),(2,true),(3,true),(4,true),(5,true),(6,true),(7,true),(8,true),(9,true),(10,true),(11,true),(12,true),(13,true),(14,true),(15,true),(16,true),(17,true),(18,true),(19,true),(20,true),(21,true),(22,false),(23,true),(24,true),(25,true),(26,true),(27,true),(28,true),(29,true),(30,true),(31,true),(32,true),(33,true),(34,true),(35,true),(37,true),(38,true),(36,false),(39,false),(40,true),(41,true)] (fun w8=>TA w8 SB gp gq gg gh fa se (.slice (some ⟨KB,ko,none⟩) n cap)/\w8.rangeAt VB 0 (jM k e v nd h c s)/\Y4 w8 KB ko ks) (by kernel_rfl) (by kernel_rfl) (fun _ _ _ _ _ h=>h) (⟨HS.out.later (U3.drew),ju HV.out (U3.drew),iF.out.later (U3.drew)⟩) (fun hHeld=>?_);refine jq ?_;refine jq ?_;refine jq ?_;refine jx (.int .u32 v) rfl (fun w8 hSw=>jd (BR (Qf hSw.2.1))) ?_;refine jx (.bool true) rfl (fun w8 hSw=>by have e9:=QV.out;simp[go_sem,e9]) ?_;refine jq ?_;refine jq ?_;refine jq ?_;refine jx (.int .u8 nd) rfl (fun w8 hSw=>jd (lG (Zq hSw.2.1))) ?_;refine jx (.bool false) rfl (fun w8 hSw=>by have e9:=QN1.out;simp[go_sem,e9]) ?_;refine jq ?_;refine jq ?_;refine jR ?_;refine jR ?_;refine jR ?_;refine jR ?_;refine jR ?_;refine jR ?_;refine jR ?_;refine jq ?_;refine jq ?_;refine jR ?_;refine WP.step rfl (fun K hK=>?_);refine zp (by rfl) ?_;refine qD hK (hHeld) (fun hHeld=>?_);clear hK K;refine jq ?_;refine jq ?_;refine jR ?_;refine jR ?_;refine jR ?_;refine jR ?_;refine jR ?_;refine jR ?_;refine jR ?_;refine jR ?_;refine jR ?_;refine jR ?_;refine jR ?_;refine jR ?_;refine jR ?_;refine WP.step rfl (fun K hK=>?_);refine zp (by rfl) ?_;refine qD hK (hHeld) (fun hHeld=>?_);clear hK K;refine WP.step rfl (fun K hK=>?_);refine zp (by rfl) ?_;refine qD hK (hHeld) (fun hHeld=>?_);clear hK K;refine jq ?_;refine jq ?_;refine WP.done ?_;clear hHeld
    go_wp2_with fail
    go_ret
    exact⟨by rw[HR.out];rfl,HB.out.drew⟩
   by_cases hn2:n<nd
   ·skip
    have HR:=jh (show R=false from HRh.out hn2);have QV:=jh (show decide ((v:Int)<=1073741824)=true by simp;omega);have QN1:=jh (show decide ((1:Int)<=(nd:Int))=true by simp;omega);have QW:=jh (show IntKind.i64.wrap (nd:Int)=(nd:Int) by simp[IntKind.wrap,IntKind.bits,IntKind.signed];omega);have QN:=jh (show n<nd by omega);clear hv hnd;refine jK [(0,true),(1,true),(2,true),(3,true),(4,true),(5,true),(6,true),(7,true),(8,true),(9,true),(10,true),(11,true),(12,true),(13,true),(14,true),(15,true),(16,true),(17,true),(18,true),(19,true),(20,true),(21,true),(22,false),(23,true),(24,true),(25,true),(26,true),(27,true),(28,true),(29,true),(30,true),(31,true),(32,true),(33,true),(34,true),(35,true),(37,true),(38,true),(36,false),(39,false),(40,true),(41,true)] (fun w8=>TA w8 SB gp gq gg gh fa se (.slice (some ⟨KB,ko,none⟩) n cap)/\w8.rangeAt VB 0 (jM k e v nd h c s)/\Y4 w8 KB ko ks) (by kernel_rfl) (by kernel_rfl) (fun _ _ _ _ _ h=>h) (⟨HS.out.later (U3.drew),ju HV.out (U3.drew),iF.out.later (U3.drew)⟩) (fun hHeld=>?_);refine jq ?_;refine jq ?_;refine jq ?_;refine jx (.int .u32 v) rfl (fun w8 hSw=>jd (BR (Qf hSw.2.1))) ?_;refine jx (.bool true) rfl (fun w8 hSw=>by have e9:=QV.out;simp[go_sem,e9]) ?_;refine jq ?_;refine jq ?_;refine jq ?_;refine jx (.int .u8 nd) rfl (fun w8 hSw=>jd (lG (Zq hSw.2.1))) ?_;refine jx (.bool true) rfl (fun w8 hSw=>by have e9:=QN1.out;simp[go_sem,e9]) ?_;refine jq ?_;refine jq ?_;refine jq ?_;refine jx (.int .u8 nd) rfl (fun w8 hSw=>jd (lG (Zq hSw.2.1))) ?_;refine jx (.int .i64 nd) rfl (fun w8 hSw=>by have e9:=QW.out;simp[go_sem,e9]) ?_;refine jq ?_;refine jx (.slice (some ⟨KB,ko,none⟩) n cap) rfl (fun w8 hSw=>jd (Qq hSw.1.nd)) ?_;refine jx (.int .i64 n) rfl (fun w8 hSw=>by simp[go_sem]) ?_;refine jx (.bool false) rfl (fun w8 hSw=>by have e9:=QN.out;simp[go_sem,e9]) ?_;refine jq ?_;refine jq ?_;refine jR ?_;refine WP.step rfl (fun K hK=>?_);refine zp (by rfl) ?_;refine qD hK (hHeld) (fun hHeld=>?_);clear hK K;refine jq ?_;refine jq ?_;refine jR ?_;refine jR ?_;refine jR ?_;refine jR ?_;refine jR ?_;refine jR ?_;refine jR ?_;refine jR ?_;refine jR ?_;refine jR ?_;refine jR ?_;refine jR ?_;refine jR ?_;refine WP.step rfl (fun K hK=>?_);refine zp (by rfl) ?_;refine qD hK (hHeld) (fun hHeld=>?_);clear hK K;refine WP.step rfl (fun K hK=>?_);refine zp (by rfl) ?_;refine qD hK (hHeld) (fun hHeld=>?_);clear hK K;refine jq ?_;refine jq ?_;refine WP.done ?_;clear hHeld
    go_wp2_with fail
    go_ret
    exact⟨by rw[HR.out];rfl,HB.out.drew⟩
   obtain⟨i,hni⟩:∃i,nd=i+1:=⟨nd-1,by omega⟩;have hin9:i<n:=by omega
   obtain⟨⟨key,k9⟩,hki⟩:∃p,ks[i]?=some p:=⟨_,Jd (by rw[<-HN.out];exact hin9)⟩;have CKc:=jh (CK.out i key k9 hki);have hgd:(ks.getD (nd-1) (0,0)).1=key:=by rw[hni,Nat.add_sub_cancel,List.getD_eq_getElem?_getD,hki];rfl
   obtain⟨so,hso⟩:=je (uD gp gq gg key c s (Jo k e v nd h));have HR:=jh (show R=so by rw[HRy.out HKD.out (by omega) (by omega) (by omega),hgd,hso]);rw[<-hso] at CKc;have E9:=jh (show IntKind.u8.wrap ((nd:Int)-1)=(i:Int) by rw[hni,show(((i+1:Nat):Int)-1)=(i:Int) by omega];simp[IntKind.wrap,IntKind.bits,IntKind.signed];omega);have QI:=jh (show(i:Int)<(n:Int) by omega);have HKI:=jh hki;have QV:=jh (show decide ((v:Int)<=1073741824)=true by simp;omega);have QN1:=jh (show decide ((1:Int)<=(nd:Int))=true by simp;omega);have QW:=jh (show IntKind.i64.wrap (nd:Int)=(nd:Int) by simp[IntKind.wrap,IntKind.bits,IntKind.signed];omega);have QN:=jh (show nd<=n by omega);clear hni hin9 hki hgd hso hv hnd hvv hn1 hn2 CK;refine jJ (.take 0 (.take 1 (.take 2 (.take 3 (.take 4 (.take 5 (.take 6 (.take 7 (.take 8 (.take 9 (.take 10 (.take 11 (.take 12 (.take 13 (.take 14 (.take 15 (.take 16 (.take 17 (.take 18 (.take 19 (.take 20 (.take 21 (.step 22 (.take 23 (.take 24 (.take 25 (.take 26 (.take 27 (.take 28 (.take 29 (.take 30 (.take 31 (.take 32 (.take 33 (.take 34 (.take 35 (.take 37 (.take 38 (.step 36 (.step 39 (.take 40 (.take 41 .done)))))))))))))))))))))))))))))))))))))))))) (fun w8=>TA w8 SB gp gq gg gh fa se (.slice (some ⟨KB,ko,none⟩) n cap)/\w8.rangeAt VB 0 (jM k e v nd h c s)/\Y4 w8 KB ko ks) (by kernel_rfl) (by kernel_rfl) (fun _ _ _ _ _ h=>h) (⟨HS.out.later (U3.drew),ju HV.out (U3.drew),iF.out.later (U3.drew)⟩) (fun hHeld=>?_);obtain⟨x1,e1⟩:=je (v_1.drew);rw[<-e1];have hb:Below v_1.heap.size v_1 x1:=by rw[e1];exact U3.drew
   have HV:=jh (ju HV.out hb);have HS:=jh (HS.out.later hb);have HB:=jw HB hb;have iF:=jh (iF.out.later hb);clear hb e1;refine jz ?_;refine jz ?_;refine jz ?_;refine jH (.int .u32 v) rfl (fun w8 hSw=>jd (BR (Qf hSw.2.1))) ?_;refine jH (.bool true) rfl (fun w8 hSw=>by have e9:=QV.out;simp[go_sem,e9]) ?_;refine jz ?_;refine jz ?_;refine jz ?_;refine jH (.int .u8 nd) rfl (fun w8 hSw=>jd (lG (Zq hSw.2.1))) ?_;refine jH (.bool true) rfl (fun w8 hSw=>by have e9:=QN1.out;simp[go_sem,e9]) ?_;refine jz ?_;refine jz ?_;refine jz ?_;refine jH (.int .u8 nd) rfl (fun w8 hSw=>jd (lG (Zq hSw.2.1))) ?_;refine jH (.int .i64 nd) rfl (fun w8 hSw=>by have e9:=QW.out;simp[go_sem,e9]) ?_;refine jz ?_;refine jH (.slice (some ⟨KB,ko,none⟩) n cap) rfl (fun w8 hSw=>jd (Qq hSw.1.nd)) ?_;refine jH (.int .i64 n) rfl (fun w8 hSw=>by simp[go_sem]) ?_;refine jH (.bool true) rfl (fun w8 hSw=>by have e9:=QN.out;simp[go_sem,e9]) ?_;refine jz ?_;refine jz ?_;refine jH (.agg SV) rfl (fun w8 hSw=>by rw[<-lX.out];exact jd (Qr hSw.1)) ?_;refine WT.step rfl (fun K hK=>?_)
   go_simp
   refine(CD.out _ iF.out).mono ?_;rintro _ x2 ⟨rfl,hb⟩;have HV:=jh (ju HV.out hb);have HS:=jh (HS.out.later hb);have HB:=jw HB hb;have iF:=jh (iF.out.later hb);clear hb;refine qD hK (⟨HS.out,HV.out,iF.out⟩) (fun hHeld=>?_);clear hK K;refine jz ?_;refine jz ?_;refine jz ?_;refine jH (.agg (jG gp gq gg gh)) rfl (fun w8 hSw=>jd (loadGr hSw.1)) ?_;refine jz ?_;refine jH (.slice (some ⟨KB,ko,none⟩) n cap) rfl (fun w8 hSw=>jd (Qq hSw.1.nd)) ?_;refine jz ?_;refine jH (.int .u8 nd) rfl (fun w8 hSw=>jd (lG (Zq hSw.2.1))) ?_;refine jH (.int .u8 i) rfl (fun w8 hSw=>by have e9:=E9.out;simp[go_sem,e9]) ?_;refine jH (jP KB (ko+i*8)) rfl (fun w8 hSw=>by have e9:=QI.out;simp[go_sem,e9]) ?_;refine jH (jP KB (ko+i*8)) rfl (fun w8 hSw=>by simp[go_sem]) ?_;refine WT.take rfl (Or.inl ⟨by rfl,fun w8 hSw=>jd (jZ (fun j hj=>(hSw.2.2 i _ HKI.out).1 j hj))⟩) ?_
   try simp only[Act.put,pa,pb,pc]
   refine jH (.agg VV) rfl (fun w8 hSw=>by rw[HVV.out];exact jd (DR hSw.2.1 HL.out)) ?_;refine jz ?_;refine jH (iY c s) rfl (fun w8 hSw=>jd (loadSg (vo_sig hSw.2.1 HL.out))) ?_;refine WT.step rfl (fun K hK=>?_)
   go_simp
   refine(CV.out _).mono ?_;rintro _ x3 ⟨rfl,hb⟩;have HV:=jh (ju HV.out hb);have HS:=jh (HS.out.later hb);have HB:=jw HB hb;have iF:=jh (iF.out.later hb);clear hb;refine qD hK (⟨HS.out,HV.out,iF.out⟩) (fun hHeld=>?_);clear hK K;refine WT.step rfl (fun K hK=>?_)
   go_simp
   refine(CKc.out _).mono ?_;rintro _ x4 ⟨rfl,hb⟩;have HV:=jh (ju HV.out hb);have HS:=jh (HS.out.later hb);have HB:=jw HB hb;have iF:=jh (iF.out.later hb);clear hb;refine qD hK (⟨HS.out,HV.out,iF.out⟩) (fun hHeld=>?_);clear hK K;refine jz ?_;refine jz ?_;refine WT.done ?_;clear hHeld
   go_wp2_with fail
   go_ret
   exact⟨by rw[HR.out];rfl,HB.out⟩
theorem GY{gp gq gg gh lg n cap:Nat}{fa se:Int}{ao:Option Addr}{sk:List (Nat×Nat)}(IB:gp<jk)(hgq:gq<jk)(hgg:gg<jk)(aK:lg<jk)(hfa: -9223372036854775808<=fa/\fa<=9223372036854775807)(hse: -9223372036854775808<=se/\se<=9223372036854775807)(hsk:∀k∈sk,k.1<jk/\k.2<jk)(hn:n=sk.length)(hcap:n<=cap)(hcm:cap<=maxLen)(w:World)(hk:0<n->∃b o,ao=some ⟨b,o,none⟩/\Y4 w b o sk):
  Calls prog 4 #[Qo gp gq gg gh lg fa se (.slice ao n cap)] w fun e w'=>∃(p q g h:Nat) (f s:Int) (a:Option Addr) (n9 c9:Nat) (ok:Bool),e=.returned (.tuple #[zC p q g h f s (.slice a n9 c9),.bool ok])/\(ok=true->p=gp/\q=gq/\g=gg/\h=gg^lg%gp/\f=fa/\s=se/\n9=n/\mQ w' gp gq gg lg n fa se sk a)/\Below w.heap.size w w':=by
 by_cases hm:Jt gp gg
 ·by_cases h0:lg=0
  ·exact FY hm h0 IB hgq hgg aK hfa hse hsk hn hcap hcm w hk
  ·by_cases h1:7<n
   ·exact tV hm h0 h1 IB hgq hgg aK hfa hse hsk hn hcap hcm w hk
   ·exact uV hm h0 (by omega) IB hgq hgg aK hfa hse hsk hn hcap hcm w hk
 ·exact ER hm IB hgq hgg aK hfa hse hsk hn hcap hcm w hk
theorem oP{gp gq gg gh n:Nat}{fa se:Int}{ks:List (Nat×Nat)}(h:qi gp gq gg gh fa se n ks=true):(0<=fa/\fa<=2/\3*fa+1<=n)/\(YH gp gq gg/\gg≠1)/\∀k∈ks,YH gp gq k.1/\k.1≠1:=by
 unfold qi at h
 iterate 8
  split at h; · cases h
 rename_i h1 h2 h3 h4 h5 h6 h7 h8
 refine⟨by omega,?_,fun k hk=>?_⟩
 ·simp only[Bool.or_eq_true,not_or,zw,Bool.not_eq_true',decide_eq_false_iff_not,Decidable.not_not,decide_eq_true_eq] at h8;exact h8.1
 ·have h9:=h;simp only[Bool.not_eq_true',List.any_eq_false] at h9;have h10:=h9 k hk;simp only[zR,zw,Bool.or_eq_true,not_or,Bool.not_eq_true',decide_eq_false_iff_not,Decidable.not_not,decide_eq_true_eq] at h10;exact h10.1
def VP(gp gg h:Nat)(sk:List (Nat×Nat)):List (Nat×Nat):=sk.map fun k=>(gg^k.1%gp,h^k.2%gp)
theorem stOk_of{w:World}{gp gq gg lg n:Nat}{fa se:Int}{sk:List (Nat×Nat)}{a:Option Addr}(h:mQ w gp gq gg lg n fa se sk a)(IB:gp<jk)(hgq:gq<jk)(hgg:gg<jk)(hfa: -9223372036854775808<=fa/\fa<=9223372036854775807)(hse: -9223372036854775808<=se/\se<=9223372036854775807)(hn:n=sk.length):
  StOk gp gq gg (gg^lg%gp) n fa se (VP gp gg (gg^lg%gp) sk):=by
 have hp:1<gp:=h.may.1;refine⟨fun k hk=>?_,hgq,IB,hgg,Nat.lt_trans (Nat.mod_lt _ (by omega)) IB,by rw[hn];simp[VP],hfa,hse,h.le,h.ok,h.may,h.prime.2.1,(oP h.ok).2.2⟩;obtain⟨k9,_,rfl⟩:=List.mem_map.1 hk;exact⟨Nat.lt_trans (Nat.mod_lt _ (by omega)) IB,Nat.lt_trans (Nat.mod_lt _ (by omega)) IB⟩
end Go.Proofs.YtpkalgofejjggaaGreatDoor
