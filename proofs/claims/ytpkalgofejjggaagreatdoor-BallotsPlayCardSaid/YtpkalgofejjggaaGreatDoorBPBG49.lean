/- Arguments that are slices of votes, opened -/
import Derived.Test.YtpkalgofejjggaaGreatDoorBPBG48
import Derived.Test.YtpkalgofejjggaaGreatDoorBPBG35
set_option maxRecDepth 20000
namespace Go.Proofs.YtpkalgofejjggaaGreatDoor
open Go.ChangeShapes Go.WideShapes Go.ChangeAt Go.RowKit Go.Deep Go.Proofs.Tryz
structure Vt where
 k:Nat
 e:Nat
 v:Nat
 n:Nat
 h:Bal.H32
 c:Nat
 s:Nat
def Vt.ok(z:Vt):Prop:=z.k<256/\z.e<18446744073709551616/\z.v<4294967296/\z.n<256/\z.c<jk/\z.s<jk
def Vt.cells(z:Vt):List Value:=jM z.k z.e z.v z.n z.h.l z.c z.s
theorem Vt.len(z:Vt):z.cells.length=44:=qz z.h.hl
def VtsAt(w:World)(b o:Nat)(l:List Vt):Prop:=∀(i:Nat) (z:Vt),l[i]?=some z->w.rangeAt b (o+i*44) z.cells
section
variable {H:Type}{enc:TypeId×Value->H}{w:World}
theorem IY:Jf prog 20 71=some (.u8::.u64::.u32::.u8::(List.replicate 32 .u8++[.u64,.u64,.u64,.u64,.u64,.u64,.u64,.u64])):=by kernel_rfl
theorem fO{fuel:Nat}{cs:List Value}{x:DataW H×List MemPlace}(h:DataW.trod enc prog w 0 (fun _=>true) true fuel 71 cs=some x):∃z:Vt,z.ok/\cs=z.cells:=by
 have hi:=JD 20 IY h;obtain⟨a,c0,rfl,w0,hi⟩:=Ji hi;obtain⟨e,c1,rfl,w1,hi⟩:=Ji hi;obtain⟨v,c2,rfl,w2,hi⟩:=Ji hi;obtain⟨n,c3,rfl,w3,hi⟩:=Ji hi;obtain⟨ch,cn,rfl,h1,h2⟩:=ZM _ _ hi;obtain⟨hl,hl1,hl2,rfl⟩:=oM 32 h1;obtain⟨c,s,hc,hs,rfl⟩:=ints8 h2;have b0:=bounds_u8 w0;have b1:=bounds_u64 w1;have b2:=bounds_u32 w2;have b3:=bounds_u8 w3;refine⟨⟨a.toNat,e.toNat,v.toNat,n.toNat,⟨hl,hl1,hl2⟩,c,s⟩,⟨?_,?_,?_,?_,hc,hs⟩,?_⟩
 ·show a.toNat<256
  omega
 ·show e.toNat<18446744073709551616
  omega
 ·show v.toNat<4294967296
  omega
 ·show n.toNat<256
  omega
 ·have e0:((a.toNat:Nat):Int)=a:=by omega
  have e1:((e.toNat:Nat):Int)=e:=by omega
  have e2:((v.toNat:Nat):Int)=v:=by omega
  have e3:((n.toNat:Nat):Int)=n:=by omega
  unfold Vt.cells jM PG;rw[e0,e1,e2,e3]
theorem open_votes{r:Reach}{b0:Nat}{v:Value}{d:DataW H}{p:List MemPlace}(hv:Value.okWide prog w r b0 30 v)(h:DataW.Trod enc prog w 0 (fun _=>true) true 30 v d p):
  ∃(al:Option Addr) (m lc:Nat) (l:List Vt),v=.slice al m lc/\m=l.length/\m<=lc/\lc<=maxLen/\(∀z∈l,z.ok)/\(0<m->∃b o,al=some ⟨b,o,none⟩/\VtsAt w b o l):=by
 obtain⟨a0,len0,cap0,rfl⟩:=okWide_slice underlying30 hv;obtain⟨fuel,hf⟩:=h
 rcases Deep.open_slice underlying30 hf with⟨hcs,_⟩|⟨a,len,cap,m,n,D,Pl,hcs,_,hl,hm,hmm,_,hi⟩
 ·simp only[Value.cells,List.cons.injEq,and_true,Value.slice.injEq] at hcs;obtain⟨rfl,rfl,rfl⟩:=hcs;exact⟨none,0,0,[],rfl,rfl,Nat.le_refl _,Nat.zero_le _,(fun k hk=>by cases hk),(fun h=>absurd h (Nat.lt_irrefl _))⟩
 ·simp only[Value.cells,List.cons.injEq,and_true,Value.slice.injEq] at hcs;obtain⟨rfl,rfl,rfl⟩:=hcs;have hm':m=cap0:=by rw[hmm];rfl
  have h44:prog.cellsOf 71=44:=by kernel_rfl
  have hel:∀i,i<len0->∃z:Vt,z.ok/\∀(j:Nat) (u:Value),z.cells[j]?=some u->w.cell? (a.add (i*44+j))=some u:=by
   intro i hil;obtain⟨cs,hcells,htr⟩:=hi i (by omega);rw[h44] at hcells;obtain⟨_,hcl,hat⟩:=World.cells?_some hcells;obtain⟨z,hz,rfl⟩:=fO htr;refine⟨z,hz,fun j u hj=>?_⟩;have hj44:j<44:=by have:=(List.getElem?_eq_some_iff.1 hj).1;rw[Vt.len] at this;exact this
   have h9:=hat j hj44;rw[hj] at h9;rw[<-Go.Deep.add_add];exact h9
  haveI:Inhabited Vt:=⟨⟨0,0,0,0,⟨List.replicate 32 0,by simp,by decide⟩,0,0⟩⟩
  obtain⟨l,hsl,hsk⟩:=oJ hel;refine⟨some a,len0,cap0,l,rfl,hsl.symm,hl,hm'▸hm,fun k hk=>?_,fun h0=>?_⟩
  ·obtain⟨i,hi'⟩:=List.mem_iff_getElem?.1 hk;exact(hsk i k hi').1
  ·obtain⟨k0,hk0⟩:∃k0,l[0]?=some k0:=⟨_,Jd (by omega)⟩
   have hs:a.spot=Option.none:=OG (v:=.int .u8 k0.k) (by
    have:=(hsk 0 k0 hk0).2 0 _ rfl
    simpa[Addr.add] using this)
   obtain⟨ab,ao,asp⟩:=a;obtain rfl:asp=Option.none:=hs;refine⟨ab,ao,rfl,fun i z hz j u hj=>?_⟩;have h9:=(hsk i z hz).2 j u hj;rw[Addr.add_lit,<-Nat.add_assoc] at h9;exact h9
end
end Go.Proofs.YtpkalgofejjggaaGreatDoor
