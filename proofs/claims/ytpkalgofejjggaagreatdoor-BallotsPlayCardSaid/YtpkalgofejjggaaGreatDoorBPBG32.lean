/- Layer 22 (ballots) -/
import Derived.Test.YtpkalgofejjggaaGreatDoorBPBG31
import Derived.Test.YtpkalgofejjggaaGreatDoorBPBG04
import Derived.DeepKeys5
namespace Go.Proofs.YtpkalgofejjggaaGreatDoor
open Go.ChangeShapes Go.WideShapes Go.ChangeAt Go.RowKit
def qE(k v n:Nat):Value:=.agg #[.int .u8 (k:Int),.int .u32 (v:Int),.int .u8 (n:Int)]
theorem uY{k v n k' v' n':Nat}(h:qE k v n=qE k' v' n'):k=k'/\v=v'/\n=n':=by
 unfold qE at h;injection h with h
 have h:=congrArg Array.toList h;simp only[List.cons.injEq,Value.int.injEq,true_and,and_true] at h;omega
structure UA(w:World)(base:Nat)(t:TypeId)(W:Nat)(vv:Bal.Bv->List Value)(f:Value->Option Value)(E:List Bal.Bv):Prop where
 row:∀k v n,O1 w base t W ((f (qE k v n)).getD (.slice none 0 0)) (Bal.at_ E k v n).length ((Bal.at_ E k v n).flatMap vv)
 apart:∀k v n k' v' n',¬(k=k'/\v=v'/\n=n')->((f (qE k v n)).getD (.slice none 0 0)).ownBlock=none∨((f (qE k v n)).getD (.slice none 0 0)).ownBlock≠((f (qE k' v' n')).getD (.slice none 0 0)).ownBlock
variable {w w':World}{base W:Nat}{t:TypeId}{vv:Bal.Bv->List Value}{f:Value->Option Value}{E:List Bal.Bv}
theorem BD(w:World)(base:Nat)(t:TypeId)(W:Nat)(vv:Bal.Bv->List Value):UA w base t W vv (fun _=>none) []:=
 ⟨fun k v n=>⟨by simp[Bal.at_],.inl ⟨rfl,by simp[Bal.at_]⟩⟩,fun _ _ _ _ _ _ _=>.inl rfl⟩
theorem qr{v:Value}{n g:Nat}{xs:List Value}(h:O1 w base t W v n xs)(hg:v.ownBlock=some g):base<=g/\g<w.heap.size:=by
 obtain⟨_,h2⟩:=h
 rcases h2 with⟨rfl,_⟩|⟨g',o,cap,cur,rfl,hb,hh,_⟩
 ·cases hg
 ·cases hg
  exact⟨hb,(J6.1 hh).1⟩
theorem UA.other{g:Nat}(h:UA w base t W vv f E)(hg:g<base)(hb:w.grownBy w' (some g)):UA w' base t W vv f E:=
 ⟨fun k v n=>O1.block (h.row k v n) (fun q hq=>hb.block q (qr (h.row k v n) hq).2 (fun e=>by
  have:=(qr (h.row k v n) hq).1;injection e with e
  omega)),h.apart⟩
open Classical in
theorem UA.put(h:UA w base t W vv f E)(x:Bal.Bv)(hx:x∉Bal.at_ E x.k x.v x.n){v':Value}
  (hown:O1 w' base t W v' ((Bal.at_ E x.k x.v x.n).length+1) ((Bal.at_ E x.k x.v x.n).flatMap vv++vv x))
  (hgr:w.grownBy w' ((f (qE x.k x.v x.n)).getD (.slice none 0 0)).ownBlock) (hl:Lies w w' ((f (qE x.k x.v x.n)).getD (.slice none 0 0)) v' (Bal.at_ E x.k x.v x.n).length 1):
  UA w' base t W vv (fun q=>if q=qE x.k x.v x.n then some v' else f q) (Bal.bput E x):=by
 have hv':∃g,v'.ownBlock=some g/\(((f (qE x.k x.v x.n)).getD (.slice none 0 0)).ownBlock=some g∨g=w.heap.size):=by
  rcases hl with⟨g,o,cap,e1,e2⟩|⟨e1,_⟩|⟨e1,_⟩
  ·exact⟨g,by rw[e2];rfl,.inl (by rw[e1];rfl)⟩
  ·exact⟨_,e1,.inr rfl⟩
  ·exact absurd e1 (by decide)
 obtain⟨g,hvg,hgo⟩:=hv'
 have far:∀k v n,¬(k=x.k/\v=x.v/\n=x.n)->((f (qE k v n)).getD (.slice none 0 0)).ownBlock=none∨((f (qE k v n)).getD (.slice none 0 0)).ownBlock≠some g:=by
  intro k v n hne
  rcases hgo with e|e
  ·rw[<-e];exact h.apart _ _ _ _ _ _ hne
  ·right
   intro e1;have:=(qr (h.row k v n) e1).2;omega
 have here:∀k v n,¬(k=x.k/\v=x.v/\n=x.n)->(if qE k v n=qE x.k x.v x.n then some v' else f (qE k v n))=f (qE k v n):=
  fun k v n hne=>if_neg fun e=>hne (uY e)
 refine⟨fun k v n=>?_,fun k v n k1 v1 n1 hne=>?_⟩
 ·by_cases hk:k=x.k/\v=x.v/\n=x.n
  ·obtain⟨rfl,rfl,rfl⟩:=hk;rw[if_pos rfl,Bal.at_bput_same hx,List.length_append,List.flatMap_append]
   simpa using hown
  ·rw[here k v n hk,Bal.at_bput_other (fun e=>hk ⟨e.1.symm,e.2.1.symm,e.2.2.symm⟩)];refine O1.block (h.row k v n) fun q hq=>hgr.block q (qr (h.row k v n) hq).2 fun e=>?_
   rcases h.apart k v n x.k x.v x.n hk with e1|e1
   ·rw[e1] at hq
    cases hq
   ·exact e1 (hq.trans e)
 ·by_cases hk:k=x.k/\v=x.v/\n=x.n
  ·have hk1:¬(k1=x.k/\v1=x.v/\n1=x.n):=fun e=>hne ⟨hk.1.trans e.1.symm,hk.2.1.trans e.2.1.symm,hk.2.2.trans e.2.2.symm⟩
   obtain⟨rfl,rfl,rfl⟩:=hk;rw[if_pos rfl,here k1 v1 n1 hk1]
   right
   show v'.ownBlock≠_
   rw[hvg]
   rcases far k1 v1 n1 hk1 with e|e
   ·rw[e]
    simp
   ·exact fun e1=>e e1.symm
  ·rw[here k v n hk]
   by_cases hk1:k1=x.k/\v1=x.v/\n1=x.n
   ·obtain⟨rfl,rfl,rfl⟩:=hk1;rw[if_pos rfl]
    show _∨_≠v'.ownBlock
    rw[hvg];exact far k v n hk
   ·rw[here k1 v1 n1 hk1];exact h.apart _ _ _ _ _ _ hne
end Go.Proofs.YtpkalgofejjggaaGreatDoor
namespace Go.Proofs.YtpkalgofejjggaaGreatDoor
open Go.ChangeShapes Go.WideShapes Go.ChangeAt Go.RowKit Go.Proofs.Tryz
theorem QR:Maps.Keyed prog 99:=Maps.Keyed.of_law (deep_law_gate (by kernel_rfl) (Nat.le_of_ble_eq_true (by kernel_rfl)) (Nat.le_of_ble_eq_true (by kernel_rfl)) (by kernel_rfl) (by kernel_rfl))
theorem tY(a b c:Int):prog.keyLits (prog.types.size+1) 99 [.int .u8 a,.int .u32 b,.int .u8 c]=
  ((if IntKind.u8=IntKind.u8/\(Lit.int .u8 a).wf=true then some [Lit.int .u8 a] else none).bind fun x=>(if IntKind.u32=IntKind.u32/\(Lit.int .u32 b).wf=true then some [Lit.int .u32 b] else none).bind fun y=>
    (if IntKind.u8=IntKind.u8/\(Lit.int .u8 c).wf=true then some [Lit.int .u8 c] else none).bind fun z=>some [x,y,z]).map List.flatten:=by kernel_rfl
theorem rY:(prog.keyType 99)=true:=by kernel_rfl
theorem UQ(a b c:Int):(Value.agg #[.int .u8 a,.int .u32 b,.int .u8 c]).formed prog 99=true:=by kernel_rfl
theorem aH{k v n:Nat}(hk:k<256)(hv:v<4294967296)(hn:n<256):∃l,keyOf prog 99 (qE k v n)=some l:=by
 have w1:(Lit.int .u8 (k:Int)).wf=true:=by
  have a1:IntKind.u8.min=0:=by decide
  have a2:IntKind.u8.max=255:=by decide
  simp only[Lit.wf,a1,a2,Bool.and_eq_true,decide_eq_true_eq];omega
 have w2:(Lit.int .u32 (v:Int)).wf=true:=by
  have a1:IntKind.u32.min=0:=by decide
  have a2:IntKind.u32.max=4294967295:=by decide
  simp only[Lit.wf,a1,a2,Bool.and_eq_true,decide_eq_true_eq];omega
 have w3:(Lit.int .u8 (n:Int)).wf=true:=by
  have a1:IntKind.u8.min=0:=by decide
  have a2:IntKind.u8.max=255:=by decide
  simp only[Lit.wf,a1,a2,Bool.and_eq_true,decide_eq_true_eq];omega
 unfold keyOf qE;rw[underlying99];simp only[rY,UQ,Value.cells,tY,w1,w2,w3];exact⟨_,rfl⟩
end Go.Proofs.YtpkalgofejjggaaGreatDoor
